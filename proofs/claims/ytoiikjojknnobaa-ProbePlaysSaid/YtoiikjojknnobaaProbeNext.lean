/- A ring: what a call of Next leaves. -/
import Derived.Test.YtoiikjojknnobaaProbeRem
namespace Go.Proofs.Ytoiikjojknnobaa
open Go.RowKit
set_option linter.unusedVariables false
set_option linter.unusedSimpArgs false
/-- The first of a row that is live, from a place on; how far that is. -/
def seekL (live : List Int) : List Int → Nat → Int × Bool × Nat
  | [], i => (0, false, i)
  | x :: l, i => if x ∈ live then (x, true, i + 1) else seekL live l (i + 1)
def pickL (row : List Int) (o : List Int) : List Int := o.map (fun i => row.getD i.toNat 0)
/-- Who is asked next; the row and the place; how many draws are taken. -/
def nextF (xs : List Int) (k : Nat) (s : List Int × Nat) (live : List Int) : (Int × Bool) × (List Int × Nat) × Nat :=
  if (seekL live (s.1.drop s.2) s.2).2.1 = true then (((seekL live (s.1.drop s.2) s.2).1, true), (s.1, (seekL live (s.1.drop s.2) s.2).2.2), k)
  else (((seekL live (pickL s.1 (drawOrd xs k s.1.length).1) 0).1, (seekL live (pickL s.1 (drawOrd xs k s.1.length).1) 0).2.1), (pickL s.1 (drawOrd xs k s.1.length).1, (seekL live (pickL s.1 (drawOrd xs k s.1.length).1) 0).2.2), (drawOrd xs k s.1.length).2)
theorem seekL_no {live : List Int} : ∀ {l : List Int} {i : Nat}, (seekL live l i).2.1 = false → (seekL live l i).1 = 0 ∧ (seekL live l i).2.2 = i + l.length
  | [], i, _ => ⟨rfl, rfl⟩
  | x :: l, i, h => by
    unfold seekL at h ⊢
    split at h
    · cases h
    · rename_i hx
      rw [if_neg hx]
      obtain ⟨h1, h2⟩ := seekL_no h
      exact ⟨h1, by rw [h2, List.length_cons]; omega⟩
theorem seekL_le {live : List Int} : ∀ {l : List Int} {i : Nat}, (seekL live l i).2.2 ≤ i + l.length
  | [], i => by simp [seekL]
  | x :: l, i => by
    unfold seekL
    split
    · simp
    · have := seekL_le (live := live) (l := l) (i := i + 1)
      rw [List.length_cons]
      omega
theorem drop_cons {l : List Int} {i : Nat} {x : Int} (h : l[i]? = some x) : l.drop i = x :: l.drop (i + 1) := by
  obtain ⟨hj, he⟩ := List.getElem?_eq_some_iff.1 h
  rw [← he]
  exact List.drop_eq_getElem_cons hj
def atOf (g : Nat) (w : World) : Nat := match w.cell? ⟨g, 2, none⟩ with | some (.int _ x) => x.toNat | _ => 0
set_option maxHeartbeats 1000000 in
theorem rg_seek {w : World} {okr okl : Nat → Prop} {g at_ rb lb n ln lc : Nat} {row live : List Int} {L : Option Addr} (h : IsRing w okr g row at_) (hn : row.length = n) (hn8 : n ≤ 1000) (hat : at_ ≤ n) (hrb : w.cell? ⟨rb, 0, none⟩ = some (.pointer (some ⟨g, 0, none⟩))) (hlb : w.cell? ⟨lb, 0, none⟩ = some (.slice L ln lc)) (hL : intK.C w okl L live) (hln : live.length = ln) (hr : rb ≠ g ∧ lb ≠ g) (hokl : ¬ okl g) :
    Calls Try.prog 28 #[.pointer (some ⟨rb, 0, none⟩), .pointer (some ⟨lb, 0, none⟩)] w fun e w' => e = .returned (.tuple #[.int .i64 (seekL live (row.drop at_) at_).1, .bool (seekL live (row.drop at_) at_).2.1]) ∧ IsRing w' okr g row (seekL live (row.drop at_) at_).2.2 ∧ Chg (fun b => b = g) w w' := by
  have HN := Lib.hid hn
  have HL := Lib.hid hL
  have HLN := Lib.hid hln
  have HI0 := Lib.hid h
  have HB : Hid (∀ wx, Chg (fun b => b = g) w wx → wx.cell? ⟨rb, 0, none⟩ = some (.pointer (some ⟨g, 0, none⟩)) ∧ wx.cell? ⟨lb, 0, none⟩ = some (.slice L ln lc) ∧ intK.C wx okl L live) := fun wx hc => ⟨hc.cell hrb (fun e => hr.1 e), hc.cell hlb (fun e => hr.2 e), Kd.C_chg hL hc (fun b hb e => hokl (by rw [← show b = g from e]; exact hb))⟩
  have HE0 : Hid (seekL live (row.drop at_) at_ = seekL live (row.drop at_) at_) := rfl
  have HC0 := Lib.hid (Chg.refl (fun b => b = g) w)
  obtain ⟨S, hS⟩ : ∃ S, seekL live (row.drop at_) at_ = S := ⟨_, rfl⟩
  rw [hS]
  have HS := Lib.hid hS
  clear h hn hrb hlb hL hln hr hokl hS
  go_enter Try.func28, Try.ntmps28
  go_wp2
  go_loopw [] (fun wr => ∃ i : Nat, i ≤ n ∧ Hid (S = seekL live (row.drop i) i) ∧ Hid (IsRing wr okr g row i) ∧ Hid (Chg (fun b => b = g) w wr)) (fun wr => n - atOf g wr)
  case atStart => exact ⟨at_, hat, HS.out.symm, HI0, HC0⟩
  case round =>
    obtain ⟨i, hi, HE, HI, HC⟩ := hrel
    clear HI0 HC0 HE0
    obtain ⟨hb1, hb2, hb3⟩ := HB.out wr HC.out
    have HL2 := Lib.hid hb3
    obtain ⟨A, c, q0, q1, q2, q3, hc, hC, h0⟩ := HI.out.read
    rw [HN.out] at q1 hc
    have HRC := Lib.hid hC
    clear hb3 hC h0
    by_cases hlt : i < n
    · have b1 : (i : Int) < (n : Int) := by omega
      have b3 : (0 : Int) ≤ (i : Int) := by omega
      obtain ⟨y, hy⟩ : ∃ y, row[i]? = some y := ⟨_, List.getElem?_eq_getElem (by rw [HN.out]; exact hlt)⟩
      obtain ⟨ad, rfl, _, hcell⟩ := at_scalar HRC.out hy
      have HY : Hid (row.drop i = y :: row.drop (i + 1)) := drop_cons hy
      have hfit : IntKind.i64.wrap ((i : Int) + 1) = (i : Int) + 1 := IntWalk.i64_in _ (by omega)
      clear hy
      have HNX : Hid (∀ q, IsRing ((wr.drewN q).setCell ⟨g, 2, none⟩ (.int .i64 ((i : Int) + 1))) okr g row (i + 1) ∧ Chg (fun b => b = g) w ((wr.drewN q).setCell ⟨g, 2, none⟩ (.int .i64 ((i : Int) + 1)))) := fun q =>
        ⟨(HI.out.new (drew_chg nob wr q)).setAt (i + 1), (HC.out.drewN q).setCell (p := ⟨g, 2, none⟩) (.inl rfl) _⟩
      have HAT : Hid (n - (i + 1) < n - atOf g wr) := by
        have h1 : atOf g wr = i := by unfold atOf; rw [q2]; rfl
        show _ < _
        omega
      go_wp2
      go_quiet (fail)
      obtain ⟨n1, rfl⟩ : ∃ n1, n1 = nq := ⟨nq, rfl⟩
      go_wp2
      go_quiet (fail)
      go_wp2_with fail
      obtain ⟨wx, hwx⟩ : ∃ wx, wx = (wr.drewN (n1 + nq)).setCell ⟨g, 2, none⟩ (.int .i64 ((i : Int) + 1)) := ⟨_, rfl⟩
      rw [← hwx]
      obtain ⟨hnx1, hnx2⟩ := HNX.out _
      rw [← hwx] at hnx1 hnx2
      obtain ⟨hx1, hx2, hx3⟩ := HB.out wx hnx2
      have HI2 := Lib.hid hnx1
      have HC2 := Lib.hid hnx2
      obtain ⟨_, _, _, _, z2, _, _⟩ := hnx1.read
      have HAT2 : Hid (n - atOf g wx < n - atOf g wr) := by
        have h1 : atOf g wx = i + 1 := by unfold atOf; rw [z2]; rfl
        show _ < _
        rw [h1]
        exact HAT.out
      clear hwx hnx1 hnx2 hx1 hx2 z2 HAT hb1 hb2 q0 q1 q2 q3
      refine (l_contains hx3 HLN.out y).mono ?_
      rintro e w' ⟨rfl, rfl⟩
      by_cases hin : y ∈ live
      · have HS3 : Hid (S = (y, true, i + 1)) := by
          show _ = _
          rw [HE.out, HY.out, seekL, if_pos hin]
        rw [decide_eq_true hin]
        clear hin hx3
        go_wp2
        go_ret2
        rw [HS3.out]
        exact ⟨rfl, HI2.out, HC2.out⟩
      · have HS3 : Hid (S = seekL live (row.drop (i + 1)) (i + 1)) := by
          show _ = _
          rw [HE.out, HY.out, seekL, if_neg hin]
        rw [decide_eq_false hin]
        clear hin hx3
        go_wp2
        exact ⟨⟨i + 1, by omega, HS3, HI2, HC2⟩, HAT2.out⟩
    · obtain rfl : i = n := by omega
      have b1 : ¬ (i : Int) < (i : Int) := by omega
      have HS2 : Hid (S = (0, false, i)) := by
        show _ = _
        rw [HE.out, List.drop_of_length_le (by rw [HN.out]; exact Nat.le_refl _)]
        rfl
      go_wp2
      go_quiet (fail)
      go_wp2
      go_ret2
      rw [HS2.out]
      exact ⟨rfl, HI.out.new (drew_chg _ _ _), HC.out.drewN _⟩
end Go.Proofs.Ytoiikjojknnobaa
