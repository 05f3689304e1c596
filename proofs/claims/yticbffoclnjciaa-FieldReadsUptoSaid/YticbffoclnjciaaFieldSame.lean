/- The laws' comparisons of two lists that are the same. -/
import Derived.Test.YticbffoclnjciaaFieldOnce
namespace Go.Proofs.Yticbffoclnjciaa
open Go.RowKit
set_option linter.unusedVariables false
theorem texts_true {w : World} {ok ok' : Nat → Prop} {A B : Option Addr} {l : List ByteArray} {m c d : Nat} (hm : l.length = m) (h : Kd.string.C w ok A l) (k : Kd.string.C w ok' B l) :
    Calls Try.prog 30 #[.slice A m c, .slice B m d] w fun e w' => e = .returned (.bool true) ∧ Chg nob w w' := by
  have hs := h.small
  rw [hm] at hs
  have HM := Lib.hid hm
  clear hm
  go_enter Try.func30, Try.ntmps30
  go_wp2
  go_loopw [5] (fun i wr => ∃ j : Nat, j ≤ m ∧ i = .int .i64 j ∧ Chg nob w wr) (fun i _ => m - (intOf i).toNat)
  case atStart => exact ⟨0, Nat.zero_le _, rfl, Chg.refl _ _⟩
  case round =>
    obtain ⟨j, hj, rfl, hc⟩ := hrel
    by_cases hlt : j < m
    · obtain ⟨x, hx⟩ : ∃ x, l[j]? = some x := ⟨_, List.getElem?_eq_getElem (by rw [HM.out]; exact hlt)⟩
      obtain ⟨ad, rfl, _, ha⟩ := at_scalar (Kd.C_new h hc) hx
      obtain ⟨bd, rfl, _, hb⟩ := at_scalar (Kd.C_new k hc) hx
      have ha' : wr.cell? (ad.add j) = some (.string x) := ha
      have hb' : wr.cell? (bd.add j) = some (.string x) := hb
      clear ha hb hx h k
      have b1 : (0 : Int) ≤ (j : Int) := by omega
      have b2 : (j : Int) < (m : Int) := by omega
      go_wp2
      go_quiet (fail)
      go_wp2
      go_roundw
      case rel => exact ⟨j + 1, by omega, by go_num, hc.drewN _⟩
      case measure => simp [intOf]; omega
    · clear h k
      go_wp2
      go_ret
      exact ⟨rfl, hc⟩
theorem nums_true {w : World} {ok ok' : Nat → Prop} {A B : Option Addr} {l : List Int} {m c d : Nat} (hm : l.length = m) (h : (Kd.int .u64).C w ok A l) (k : (Kd.int .u64).C w ok' B l) :
    Calls Try.prog 31 #[.slice A m c, .slice B m d] w fun e w' => e = .returned (.bool true) ∧ Chg nob w w' := by
  have hs := h.small
  rw [hm] at hs
  have HM := Lib.hid hm
  clear hm
  go_enter Try.func31, Try.ntmps31
  go_wp2
  go_loopw [5] (fun i wr => ∃ j : Nat, j ≤ m ∧ i = .int .i64 j ∧ Chg nob w wr) (fun i _ => m - (intOf i).toNat)
  case atStart => exact ⟨0, Nat.zero_le _, rfl, Chg.refl _ _⟩
  case round =>
    obtain ⟨j, hj, rfl, hc⟩ := hrel
    by_cases hlt : j < m
    · obtain ⟨x, hx⟩ : ∃ x, l[j]? = some x := ⟨_, List.getElem?_eq_getElem (by rw [HM.out]; exact hlt)⟩
      obtain ⟨ad, rfl, _, ha⟩ := at_scalar (Kd.C_new h hc) hx
      obtain ⟨bd, rfl, _, hb⟩ := at_scalar (Kd.C_new k hc) hx
      have ha' : wr.cell? (ad.add j) = some (.int .u64 x) := ha
      have hb' : wr.cell? (bd.add j) = some (.int .u64 x) := hb
      clear ha hb hx h k
      have b1 : (0 : Int) ≤ (j : Int) := by omega
      have b2 : (j : Int) < (m : Int) := by omega
      go_wp2
      go_quiet (fail)
      go_wp2
      go_roundw
      case rel => exact ⟨j + 1, by omega, by go_num, hc.drewN _⟩
      case measure => simp [intOf]; omega
    · clear h k
      go_wp2
      go_ret
      exact ⟨rfl, hc⟩
end Go.Proofs.Yticbffoclnjciaa
