/- Two rows that are the same; the reference's Some. -/
import Derived.Test.YtoiikjojknnobaaDrawRef
namespace Go.Proofs.Ytoiikjojknnobaa
open Go.RowKit
set_option linter.unusedVariables false
set_option maxHeartbeats 1000000 in
theorem same_true {w : World} {ok ok' : Nat → Prop} {A B : Option Addr} {l : List Int} {m c d : Nat} (hm : l.length = m) (h : (Kd.int .i64).C w ok A l) (k : (Kd.int .i64).C w ok' B l) :
    Calls Try.prog 21 #[.slice A m c, .slice B m d] w fun e w' => e = .returned (.bool true) ∧ Chg nob w w' := by
  have hs := h.small
  rw [hm] at hs
  have HM := Lib.hid hm
  clear hm
  go_enter Try.func21, Try.ntmps21
  go_wp2
  go_loopw [5] (fun i wr => ∃ j : Nat, j ≤ m ∧ i = .int .i64 j ∧ Chg nob w wr) (fun i _ => m - (intOf i).toNat)
  case atStart => exact ⟨0, Nat.zero_le _, rfl, Chg.refl _ _⟩
  case round =>
    obtain ⟨j, hj, rfl, hc⟩ := hrel
    by_cases hlt : j < m
    · obtain ⟨x, hx⟩ : ∃ x, l[j]? = some x := ⟨_, List.getElem?_eq_getElem (by rw [HM.out]; exact hlt)⟩
      obtain ⟨ad, rfl, _, ha⟩ := at_scalar (Kd.C_new h hc) hx
      obtain ⟨bd, rfl, _, hb⟩ := at_scalar (Kd.C_new k hc) hx
      have ha' : wr.cell? (ad.add j) = some (.int .i64 x) := ha
      have hb' : wr.cell? (bd.add j) = some (.int .i64 x) := hb
      clear ha hb hx h k
      have b1 : (0 : Int) ≤ (j : Int) := by omega
      have b2 : (j : Int) < (m : Int) := by omega
      go_wp2
      go_quiet (fail)
      go_wp2
      go_roundw
      case rel => exact ⟨j + 1, by omega, by go_num, hc.drewN _⟩
      case measure => simp [intOf]; omega
    · clear h k
      go_wp2
      go_ret
      exact ⟨rfl, hc⟩
set_option maxHeartbeats 1000000 in
theorem ref_some {w : World} {ok : Nat → Prop} {g : Nat} {k : Nat} {xs : List Int} (h : IsRef w ok g xs k) (hok : ∀ b, ok b → b < w.heap.size) (n many : Int) :
    Calls Try.prog 35 #[.pointer (some ⟨g, 0, none⟩), .int .i64 n, .int .i64 many] w (RefPost w ok g xs (drawSome xs k n many).1 (drawSome xs k n many).2) := by
  have hM := ordM_le n
  have hS : someM many (ordM n) ≤ ordM n ∧ (someM many (ordM n) : Int) = min (max many 0) (ordM n) := by unfold someM; omega
  obtain ⟨hS1, hS2⟩ := hS
  have HS := Lib.hid hS2
  clear hS2
  have hn : (many < 0 ∧ (someM many (ordM n) : Int) ≤ 0) ∨ ((ordM n : Int) < many ∧ (ordM n : Int) ≤ someM many (ordM n)) ∨ (0 ≤ many ∧ many ≤ ordM n ∧ (someM many (ordM n) : Int) ≤ many ∧ many ≤ someM many (ordM n)) := by have := HS.out; omega
  have hl0 := drawOrd_length xs k n
  have HL := Lib.hid hl0
  have HT : Hid ((drawSome xs k n many).1.length = someM many (ordM n)) := by show ((drawOrd xs k n).1.take _).length = _; rw [List.length_take, hl0]; omega
  clear hl0
  go_enter Try.func35, Try.ntmps35
  go_wp2_with fail
  refine (ref_order h hok n).mono ?_
  intro e w' hp
  obtain ⟨A, c, he, hl, hC, hd, hc⟩ := hp
  have hC2 : (Kd.int .i64).C w' (fun b => w.heap.size ≤ b) A (drawSome xs k n many).1 := Kd.C_take hC _ (by rw [HL.out]; exact hS1)
  rw [HL.out] at he hl
  subst he
  generalize ordM n = M at *
  generalize someM many M = S at *
  have fin : ∀ q : Nat, q = S → RefPost w ok g xs (drawSome xs k n many).1 (drawSome xs k n many).2 (.returned (.slice A q c)) w' := by
    intro q hq
    exact ⟨A, c, by rw [HT.out, hq], by rw [HT.out]; omega, hC2, hd, hc⟩
  have FIN := Lib.hid fin
  clear fin hC hC2
  rcases hn with ⟨n1, n2⟩ | ⟨n1, n2⟩ | ⟨n1, n4, n2, n3⟩
  · go_wp2
    go_ret
    exact FIN.out 0 (by omega)
  · go_wp2
    go_ret
    exact FIN.out M (by omega)
  · obtain ⟨q, rfl⟩ : ∃ q : Nat, many = q := ⟨many.toNat, by omega⟩
    go_wp2
    go_ret
    exact FIN.out q (by omega)
end Go.Proofs.Ytoiikjojknnobaa
