/- field.Reader: what a call of Flag, Done, Read does. -/
import Derived.Test.YtbgnplgdknbmoaaReaderText
namespace Go.Proofs.Ytbgnplgdknbmoaa
open Go.RowKit
set_option linter.unusedVariables false
theorem rd_done {w : World} {ok : Nat → Prop} {p : Option Addr} {mk : Bool} {bs : List UInt8} {e : Nat} (h : IsRd w ok p mk bs e) :
    Calls Try.prog 34 #[.pointer p] w fun x w' => x = .returned (.int .i64 (rDone bs e)) ∧ w' = w := by
  have HI := Lib.hid h
  clear h
  go_enter Try.func34, Try.ntmps34
  go_wp2_with fail
  refine (rd_wrong HI.out).mono ?_
  rintro x w1 ⟨rfl, rfl⟩
  by_cases he : e = 0
  · subst he
    rw [show (((0 : Nat) : Int)) = (0 : Int) from rfl]
    go_wp2_with fail
    refine (rd_left HI.out).mono ?_
    rintro x w1 ⟨rfl, rfl⟩
    have HR : Hid (rDone bs 0 = if 0 < bs.length then 41 else 0) := by show _ = _; simp [rDone]
    obtain ⟨m, hm⟩ : ∃ m, bs.length = m := ⟨_, rfl⟩
    rw [hm] at HR ⊢
    clear HI hm
    by_cases hm : 0 < m
    · rw [if_pos hm] at HR
      go_wp2
      go_ret
      rw [HR.out]
      exact ⟨rfl, rfl⟩
    · obtain rfl : m = 0 := by omega
      rw [if_neg hm] at HR
      rw [show (((0 : Nat) : Int)) = (0 : Int) from rfl]
      go_wp2
      go_ret
      rw [HR.out]
      exact ⟨rfl, rfl⟩
  · have he' : ((e : Int) == 0) = false := by simp; omega
    go_wp2
    go_ret
    rw [rDone, if_pos he]
    exact ⟨rfl, rfl⟩
/-- A new reader, of the call's own. -/
def RdNew (w : World) (bs : List UInt8) (x : Ending) (w' : World) : Prop := ∃ g, x = .returned (.pointer (some ⟨g, 0, none⟩)) ∧ IsRdAt w' (fun b => w.heap.size ≤ b) g true bs 0 ∧ Chg nob w w'
theorem rd_read {w : World} {ok : Nat → Prop} {A : Option Addr} {m c : Nat} {bs : List UInt8} (hb : Kd.byte.C w ok A bs) (hm : bs.length = m) (hm2 : m ≤ 1000000000) :
    Calls Try.prog 25 #[.slice A m c] w (RdNew w bs) := by
  have HB := Lib.hid hb
  have HM := Lib.hid hm
  clear hb hm
  have HE : Hid (Kd.byte.R 5 (w.alloc (.cells #[] 5)) w.heap.size (fun k => k = w.heap.size) (.slice (some ⟨w.heap.size, 0, none⟩) 0 0) ([] : List UInt8)) := empty_own w w.heap.size 5 Kd.byte (Nat.le_refl _)
  go_enter Try.func25, Try.ntmps25
  go_wp2_with (at_builtin; refine wp_appB rfl _ _ rfl w.heap.size _ _ (.slice (some ⟨w.heap.size, 0, none⟩) 0 0) ([] : List UInt8) bs A m c rfl rfl HM.out HE.out (Kd.C_new HB.out ((Chg.refl _ _).alloc _)) (by simp) m ?_ ?_ ?_)
  · simp
  · omega
  intro A1 c1 w1 hR hC _
  have hc1 : Chg nob w w1 := ((Chg.refl _ w).alloc _).trans hC (fun b hb => .inr (by
    have : some b = some w.heap.size := hb
    cases this
    exact Nat.le_refl _))
  have s1 := hc1.size
  have HR := Lib.hid (Kd.R_read (byte_ge hR)).1
  obtain ⟨hlen, hcap⟩ := (Kd.R_read hR).2
  clear hR hC HE
  have HN : ∀ cs t, Chg nob w1 (w1.alloc (.cells cs t)) := fun cs t => (Chg.refl _ _).alloc _
  go_wp2
  go_ret
  refine ⟨w1.heap.size, rfl, ⟨s1, A1, c1, ?_, by rw [HM.out]; exact hcap, ?_⟩, hc1.thenNew ((Chg.refl _ _).alloc _)⟩
  · rw [HM.out]
    exact heap_alloc_new w1 _
  · exact Kd.C_new (Kd.C_mono (Kd.C_bound HR.out) (fun b hb => ⟨hb.1, by omega⟩)) ((Chg.refl _ _).alloc _)
end Go.Proofs.Ytbgnplgdknbmoaa
