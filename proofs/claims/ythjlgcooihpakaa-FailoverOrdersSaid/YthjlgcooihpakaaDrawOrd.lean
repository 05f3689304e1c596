/- Draws that are there or not; Order's inner function; Order; Some. -/
import Derived.Test.YthjlgcooihpakaaDraw
import Derived.RegionTactic
import Derived.BigRegion
namespace Go.Proofs.Ythjlgcooihpakaa
open Go.RowKit
set_option linter.unusedVariables false

/-- Draws behind a pointer that may be nil. -/
def IsD (w : World) (ok : Nat → Prop) (p : Option Addr) (xs : List Int) (k : Nat) : Prop :=
  (∃ g, p = some ⟨g, 0, none⟩ ∧ IsDraws w ok g xs k) ∨ (p = none ∧ xs = [] ∧ k = 0)
theorem IsD.of {w : World} {ok : Nat → Prop} {g : Nat} {xs : List Int} {k : Nat} (h : IsDraws w ok g xs k) : IsD w ok (some ⟨g, 0, none⟩) xs k := .inl ⟨g, rfl, h⟩
theorem IsD.chg {w w' : World} {ok S : Nat → Prop} {p : Option Addr} {xs : List Int} {k : Nat} (h : IsD w ok p xs k) (hc : Chg S w w') (hs : ∀ b, ok b → ¬ S b) : IsD w' ok p xs k := by
  rcases h with ⟨g, e, h⟩ | h
  · exact .inl ⟨g, e, h.chg hc hs⟩
  · exact .inr h
theorem IsD.new {w w' : World} {ok : Nat → Prop} {p : Option Addr} {xs : List Int} {k : Nat} (h : IsD w ok p xs k) (hc : Chg nob w w') : IsD w' ok p xs k := h.chg hc (fun b _ => not_nob b)
theorem IsD.mono {w : World} {ok ok' : Nat → Prop} {p : Option Addr} {xs : List Int} {k : Nat} (h : IsD w ok p xs k) (hk : ∀ b, ok b → ok' b) : IsD w ok' p xs k := by
  rcases h with ⟨g, e, h⟩ | h
  · exact .inl ⟨g, e, h.mono hk⟩
  · exact .inr h
theorem IsD.bound {w : World} {ok : Nat → Prop} {p : Option Addr} {xs : List Int} {k : Nat} (h : IsD w ok p xs k) : IsD w (fun b => ok b ∧ b < w.heap.size) p xs k := by
  rcases h with ⟨g, e, h⟩ | h
  · exact .inl ⟨g, e, h.bound⟩
  · exact .inr h
theorem IsD.bd {w : World} {ok : Nat → Prop} {p : Option Addr} {xs : List Int} {k : Nat} (h : IsD w ok p xs k) : ∀ x ∈ xs, 0 ≤ x ∧ x < 4294967296 := by
  rcases h with ⟨g, e, h⟩ | ⟨_, rfl, _⟩
  · exact h.bd
  · simp
theorem IsD.le {w : World} {ok : Nat → Prop} {p : Option Addr} {xs : List Int} {k : Nat} (h : IsD w ok p xs k) : k ≤ xs.length ∧ xs.length ≤ 4096 := by
  rcases h with ⟨g, e, h⟩ | ⟨_, rfl, rfl⟩
  · exact h.le
  · simp
set_option maxHeartbeats 400000 in
theorem draw_below_nil (w : World) (m : Int) :
    Calls Try.prog 36 #[.pointer none, .int .i64 m] w fun e w' => e = .returned (.int .i64 0) ∧ w = w' := by
  by_cases hm : m < 2
  · go_enter Try.func36, Try.ntmps36
    go_wp2
    go_ret
    exact ⟨rfl, rfl⟩
  · go_enter Try.func36, Try.ntmps36
    go_wp2_with fail
    refine (draw_left_nil w).mono ?_
    rintro e w' ⟨rfl, rfl⟩
    go_wp2
    go_ret
    exact ⟨rfl, rfl⟩
theorem d_below {w : World} {ok : Nat → Prop} {p : Option Addr} {k : Nat} {xs : List Int} (h : IsD w ok p xs k) (m : Int) :
    Calls Try.prog 36 #[.pointer p, .int .i64 m] w fun e w' => e = .returned (.int .i64 (drawVal xs k m)) ∧ IsD w' ok p xs (k + drawAdv xs k m) ∧ Chg ok w w' := by
  rcases h with ⟨g, rfl, h⟩ | ⟨rfl, rfl, rfl⟩
  · exact (draw_below h m).mono fun e w' ⟨he, hd, hc⟩ => ⟨he, .of hd, hc.mono (fun i hi => .inl (hi ▸ h.ok_))⟩
  · rw [drawVal_small (xs := []) (k := 0) (m := m) (.inr (Nat.le_refl _)), drawAdv_small (xs := []) (k := 0) (m := m) (.inr (Nat.le_refl _))]
    exact (draw_below_nil w m).mono fun e w' ⟨he, hw⟩ => ⟨he, .inr ⟨rfl, rfl, rfl⟩, hw ▸ Chg.refl _ _⟩
theorem d_left {w : World} {ok : Nat → Prop} {p : Option Addr} {k : Nat} {xs : List Int} (h : IsD w ok p xs k) :
    Calls Try.prog 38 #[.pointer p] w fun e w' => e = .returned (.int .i64 ((xs.length : Int) - k)) ∧ Chg nob w w' := by
  rcases h with ⟨g, rfl, h⟩ | ⟨rfl, rfl, rfl⟩
  · exact draw_left h
  · exact (draw_left_nil w).mono fun e w' ⟨he, hw⟩ => ⟨by rw [he]; rfl, hw ▸ Chg.refl _ _⟩

/-! ### the row in another order: the plain function -/
def swapAt (l : List Int) (i j : Nat) : List Int := (l.set i (l.getD j 0)).set j (l.getD i 0)
def ordLoop (xs : List Int) : Nat → List Int → Nat → List Int × Nat
  | 0, l, k => (l, k)
  | i + 1, l, k => ordLoop xs i (swapAt l (i + 1) (drawVal xs k ((i : Int) + 2)).toNat) (k + drawAdv xs k ((i : Int) + 2))
theorem ordLoop_pos (xs : List Int) (J : Nat) (hJ : 0 < J) (l : List Int) (k : Nat) : ordLoop xs J l k = ordLoop xs (J - 1) (swapAt l J (drawVal xs k ((J : Int) + 1)).toNat) (k + drawAdv xs k ((J : Int) + 1)) := by
  obtain ⟨i, rfl⟩ : ∃ i, J = i + 1 := ⟨J - 1, by omega⟩
  rw [ordLoop, show ((i : Int) + 2) = (((i + 1 : Nat) : Int) + 1) from by omega]
  rfl
def places (m : Nat) : List Int := (List.range m).map fun j => ((j : Nat) : Int)
def ordM (n : Int) : Nat := (min (max n 0) 64).toNat
def drawOrd (xs : List Int) (k : Nat) (n : Int) : List Int × Nat := ordLoop xs (ordM n - 1) (places (ordM n)) k
theorem swapAt_length (l : List Int) (i j : Nat) : (swapAt l i j).length = l.length := by simp [swapAt]
theorem ordLoop_length (xs : List Int) (i : Nat) : ∀ (l : List Int) (k : Nat), (ordLoop xs i l k).1.length = l.length := by
  induction i with
  | zero => intro l k; rfl
  | succ i ih => intro l k; rw [ordLoop, ih, swapAt_length]
theorem drawOrd_length (xs : List Int) (k : Nat) (n : Int) : (drawOrd xs k n).1.length = ordM n := by unfold drawOrd; rw [ordLoop_length]; simp [places]

set_option maxHeartbeats 1000000 in
theorem order_change {w : World} {ok : Nat → Prop} {p : Option Addr} {k : Nat} {xs : List Int} (h : IsD w ok p xs k) (Bd Bl r base m cap : Nat) (l : List Int)
    (hbd : w.heap[Bd]? = some (.cells #[.pointer p] 52 (0, 0))) (hbl : w.heap[Bl]? = some (.cells #[.slice (some ⟨r, 0, none⟩) m cap] 69 (0, 0)))
    (hr : w.ownsRow base 3 1 (.slice (some ⟨r, 0, none⟩) m cap) m (l.map (Value.int .i64)))
    (n1 : ¬ ok Bd) (n2 : ¬ ok Bl) (n3 : ¬ ok r) (n4 : Bl ≠ r) (i : Nat) (hi : i < m) (hi2 : m ≤ 64) :
    Calls Try.prog 35 #[.int .i64 i, .pointer (some ⟨Bd, 0, none⟩), .pointer (some ⟨Bl, 0, none⟩)] w fun e w' => e = .returned (.tuple #[]) ∧ IsD w' ok p xs (k + drawAdv xs k ((i : Int) + 1)) ∧
      w'.ownsRow base 3 1 (.slice (some ⟨r, 0, none⟩) m cap) m ((swapAt l i (drawVal xs k ((i : Int) + 1)).toNat).map (Value.int .i64)) ∧ Chg (fun b => ok b ∨ b = r) w w' := by
  have hlen : l.length = m := by have := hr.1; simpa using this
  have ed : w.cell? ⟨Bd, 0, none⟩ = some (.pointer p) := by rw [cell_of_row w Bd 0 _ _ _ hbd]; rfl
  have hv := drawVal_bd h.bd k ((i : Int) + 1)
  go_enter Try.func35, Try.ntmps35
  go_wp2_with fail
  refine (d_below h _).mono ?_
  rintro e w1 ⟨rfl, hd, hc⟩
  have hbl1 := hc.heap hbl n2
  have hr1 := Kd.own_move (w' := w1) hr (fun b hb => by cases hb; exact hc.block _ ((hr.lt _ rfl).2) n3)
  obtain ⟨j, hj0⟩ : ∃ j : Nat, drawVal xs k ((i : Int) + 1) = j := ⟨(drawVal xs k ((i : Int) + 1)).toNat, by omega⟩
  rw [hj0] at hv ⊢
  have HJ := Lib.hid hj0
  clear hj0
  have hj : j < m := by omega
  have el : w1.cell? ⟨Bl, 0, none⟩ = some (.slice (some ⟨r, 0, none⟩) m cap) := by rw [cell_of_row w1 Bl 0 _ _ _ hbl1]; rfl
  have ei : w1.cell? ⟨r, i, none⟩ = some (.int .i64 (l.getD i 0)) := by rw [hr1.cellAt i (by omega), List.getElem?_map, List.getD_eq_getElem?_getD, List.getElem?_eq_getElem (by omega)]; rfl
  have ej : w1.cell? ⟨r, j, none⟩ = some (.int .i64 (l.getD j 0)) := by rw [hr1.cellAt j (by omega), List.getElem?_map, List.getD_eq_getElem?_getD, List.getElem?_eq_getElem (by omega)]; rfl
  have fi := hr1.frozenAt i
  have fj := hr1.frozenAt j
  clear hbl1 hbl hbd hr ed hv
  have b1 : (0 : Int) ≤ (i : Int) := by omega
  have b2 : (i : Int) < (m : Int) := by omega
  have b3 : (0 : Int) ≤ (j : Int) := by omega
  have b4 : (j : Int) < (m : Int) := by omega
  obtain ⟨a, ha⟩ : ∃ a, l.getD i 0 = a := ⟨_, rfl⟩
  obtain ⟨b, hb⟩ : ∃ b, l.getD j 0 = b := ⟨_, rfl⟩
  rw [ha] at ei
  rw [hb] at ej
  have HA := Lib.hid ha
  have HB := Lib.hid hb
  have HR := Lib.hid hr1
  clear ha hb hr1 hlen
  obtain ⟨v', hv'⟩ := cell?_setCell_some (w := w1) (p := ⟨r, i, none⟩) (x := .int .i64 b) (q := ⟨r, j, none⟩) (v := .int .i64 b) ej
  go_wp2
  go_region
  all_goals
    go_end0
    have hS : Chg (fun b => b = r) w1 (((w1.setCell ⟨r, i, none⟩ (.int .i64 b)).setCell ⟨r, j, none⟩ (.int .i64 a)).drew) := (((Chg.refl (fun b => b = r) w1).setCell (p := ⟨r, i, none⟩) (.inl rfl) _).setCell (p := ⟨r, j, none⟩) (.inl rfl) _).drew
    refine ⟨rfl, hd.chg hS (fun b hb e => n3 (e ▸ hb)), ?_, (hc.mono (fun b hb => .inl (.inl hb))).trans hS (fun b hb => .inl (.inr hb))⟩
    have h1 := (((HR.out).stored i (.int .i64 b)).1.stored j (.int .i64 a)).1
    rw [← HA.out, ← HB.out, ← List.map_set, ← List.map_set] at h1
    rw [HJ.out, Int.toNat_natCast]
    rw [← HA.out, ← HB.out]
    exact h1

theorem i64_info : (Try.prog.info? 3).map (fun i => (i.zero, i.size, i.bytes)) = some (some (.int .i64 0), 1, 8) := by kernel_rfl
/-- What Order leaves. -/
def OrdPost (w : World) (ok : Nat → Prop) (p : Option Addr) (xs : List Int) (k : Nat) (n : Int) (e : Ending) (w' : World) : Prop :=
  ∃ v, e = .returned v ∧ (Kd.int .i64).R 3 w' w.heap.size (fun b => w.heap.size ≤ b) v (drawOrd xs k n).1 ∧ IsD w' ok p xs (drawOrd xs k n).2 ∧ Chg ok w w'
/-- Between the rounds: the two boxes, the row, the draws. -/
structure OrdMid (w : World) (ok : Nat → Prop) (p : Option Addr) (xs : List Int) (v : Value) (l : List Int) (k : Nat) (wr : World) : Prop where
  bd : wr.heap[w.heap.size]? = some (.cells #[.pointer p] 52 (0, 0))
  bl : wr.heap[w.heap.size + 1]? = some (.cells #[v] 69 (0, 0))
  row : (Kd.int .i64).R 3 wr (w.heap.size + 2) (fun b => some b = v.ownBlock) v l
  d : IsD wr ok p xs k
  chg : Chg ok w wr
theorem places_succ (c : Nat) : places (c + 1) = places c ++ [(c : Int)] := by simp [places, List.range_succ]
theorem ordM_le (n : Int) : ordM n ≤ 64 := by unfold ordM; omega
theorem ordM_eq (n : Int) : (ordM n : Int) = min (max n 0) 64 := by unfold ordM; omega
/-- One more place. -/
theorem OrdMid.grow {w wr w1 : World} {ok : Nat → Prop} {p : Option Addr} {xs : List Int} {v v1 : Value} {l l' : List Int} {k : Nat} (h : OrdMid w ok p xs v l k wr) (hok : ∀ b, ok b → b < w.heap.size)
    (hR : (Kd.int .i64).R 3 w1 (w.heap.size + 2) (fun b => some b = v1.ownBlock) v1 l') (hC : Chg (fun b => some b = v.ownBlock) wr w1) :
    OrdMid w ok p xs v1 l' k (w1.setCell ⟨w.heap.size + 1, 0, none⟩ v1) := by
  have hne : ∀ b, some b = v.ownBlock → w.heap.size + 2 ≤ b := fun b hb => (Kd.R_own h.row b hb.symm).1
  have hne1 : ∀ b, some b = v1.ownBlock → w.heap.size + 2 ≤ b := fun b hb => (Kd.R_own hR b hb.symm).1
  have b1 := hC.heap h.bd (fun e => by have := hne _ e; omega)
  have b2 := hC.heap h.bl (fun e => by have := hne _ e; omega)
  have hS : Chg (fun b => b = w.heap.size + 1) w1 (w1.setCell ⟨w.heap.size + 1, 0, none⟩ v1) := (Chg.refl (fun b => b = w.heap.size + 1) w1).setCell (p := ⟨w.heap.size + 1, 0, none⟩) (.inl rfl) _
  refine ⟨hS.heap b1 (by omega), ?_, Kd.R_chg hR hS (fun b hb e => by have := hne1 b hb; omega), ?_, ?_⟩
  · simp [World.setCell, Array.getElem?_modify, b2]
  · exact (h.d.chg hC (fun b hb e => by have := hok b hb; have := hne b e; omega)).chg hS (fun b hb e => by have := hok b hb; omega)
  · exact (h.chg.trans hC (fun b hb => .inr (by have := hne b hb; omega))).trans hS (fun b hb => .inr (by omega))
/-- A round of the second loop. -/
theorem OrdMid.swap {w wr w1 : World} {ok : Nat → Prop} {p : Option Addr} {xs : List Int} {r m cap : Nat} {l l' : List Int} {k k' : Nat} (h : OrdMid w ok p xs (.slice (some ⟨r, 0, none⟩) m cap) l k wr) (hok : ∀ b, ok b → b < w.heap.size)
    (hd : IsD w1 ok p xs k') (hr : w1.ownsRow (w.heap.size + 2) 3 1 (.slice (some ⟨r, 0, none⟩) m cap) m (l'.map (Value.int .i64))) (hC : Chg (fun b => ok b ∨ b = r) wr w1) :
    OrdMid w ok p xs (.slice (some ⟨r, 0, none⟩) m cap) l' k' w1 := by
  have h2 : w.heap.size + 2 ≤ r := (Kd.R_own h.row r rfl).1
  refine ⟨hC.heap h.bd ?_, hC.heap h.bl ?_, Kd.R_of_own hr, hd, h.chg.trans hC ?_⟩
  · rintro (hb | hb)
    · have := hok _ hb; omega
    · omega
  · rintro (hb | hb)
    · have := hok _ hb; omega
    · omega
  · rintro b (hb | rfl)
    · exact .inl hb
    · exact .inr (by omega)
theorem OrdMid.post {w wr : World} {ok : Nat → Prop} {p : Option Addr} {xs : List Int} {v : Value} {l : List Int} {k k' : Nat} {n : Int} (h : OrdMid w ok p xs v l k' wr) (he : (l, k') = drawOrd xs k n) :
    OrdPost w ok p xs k n (.returned v) wr := by
  refine ⟨v, rfl, ?_, ?_, h.chg⟩
  · rw [← he]
    exact Kd.R_mono (Kd.R_lower h.row (by omega)) (fun b hb => by have := (Kd.R_own h.row b hb.symm).1; omega)
  · rw [← he]; exact h.d
set_option maxHeartbeats 2000000 in
theorem d_order0 {w : World} {ok : Nat → Prop} {p : Option Addr} {k : Nat} {xs : List Int} (h : IsD w ok p xs k) (hok : ∀ b, ok b → b < w.heap.size) (n : Int) :
    Calls Try.prog 24 #[.pointer p, .int .i64 n] w (OrdPost w ok p xs k n) := by
  have hM := ordM_eq n
  have hM2 := ordM_le n
  have h0 : OrdMid w ok p xs (.slice none 0 0) [] k ((w.alloc (.cells #[.pointer p] 52)).alloc (.cells #[.slice none 0 0] 69)) := by
    have c0 : Chg ok w ((w.alloc (.cells #[.pointer p] 52)).alloc (.cells #[.slice none 0 0] 69)) := ((Chg.refl _ _).alloc _).alloc _
    have c1 : Chg nob w ((w.alloc (.cells #[.pointer p] 52)).alloc (.cells #[.slice none 0 0] 69)) := ((Chg.refl _ _).alloc _).alloc _
    refine ⟨?_, ?_, Kd.R_nil _ _ _ _ _, h.new c1, c0⟩
    · rw [Below.heap_alloc _ _ _ (by simp)]; exact heap_alloc_new w _
    · have := heap_alloc_new (w.alloc (.cells #[.pointer p] 52)) (.cells #[.slice none 0 0] 69)
      simpa using this
  have HF : Hid (drawOrd xs k n = ordLoop xs (ordM n - 1) (places (ordM n)) k) := rfl
  generalize ordM n = M at *
  have HM := Lib.hid hM
  clear hM
  have hn : (n < 0 ∧ (M : Int) ≤ 0 ∧ (0 : Int) ≤ M) ∨ (64 < n ∧ (M : Int) ≤ 64 ∧ (64 : Int) ≤ M) ∨ (0 ≤ n ∧ n ≤ 64 ∧ (M : Int) ≤ n ∧ n ≤ M) := by have := HM.out; omega
  rcases hn with ⟨n1, n2, n3⟩ | ⟨n1, n2, n3⟩ | ⟨n1, n4, n2, n3⟩
  all_goals
    go_enter Try.func24, Try.ntmps24
    go_wp2
    go_loopw [12] (fun i wr => ∃ c : Nat, ∃ A : Option Addr, ∃ cc : Nat, c ≤ M ∧ i = .int .i64 c ∧ OrdMid w ok p xs (.slice A c cc) (places c) k wr) (fun i _ => M - (intOf i).toNat)
    case atStart => exact ⟨0, _, _, Nat.zero_le _, rfl, h0⟩
    case round =>
      obtain ⟨c, A, cc, hcM, rfl, hm⟩ := hrel
      have el : wr.cell? ⟨w.heap.size + 1, 0, none⟩ = some (.slice A c cc) := by rw [cell_of_row wr _ 0 _ _ _ hm.bl]; rfl
      by_cases hlt : c < M
      · first
        | (exfalso; omega)
        | (have f1 : (places c).length + 1 ≤ maxLen := by simp [places, maxLen]; omega
           have f2 : ((places c).length + 1) * 8 ≤ 140737488355328 := by simp [places]; omega
           have f3 : w.heap.size + 2 ≤ wr.heap.size := heap_lt hm.bl
           have f4 : (places c).length + 1 = c + 1 := by simp [places]
           have F4 := Lib.hid f4
           clear f4
           go_wp2_with (at_builtin; refine wp_append1F (d := Kd.int .i64) Kd.scalar_flat rfl _ _ 69 rfl 3 (.int .i64 0) 8 Try.underlying69 i64_info rfl (w.heap.size + 2) (fun b => some b = (Value.slice A c cc).ownBlock) (fun _ => False) (.slice A c cc) (places c) (c : Int) _ rfl rfl hm.row rfl f1 f2 f3 (c + 1) F4.out ?_)
           intro A1 c1 w1 hR hC _
           rw [← places_succ] at hR
           have hm1 := hm.grow hok hR hC
           have el1 : w1.cell? ⟨w.heap.size + 1, 0, none⟩ = some (.slice A c cc) := hC.cell el (fun e => by have h1 : w.heap.size + 2 ≤ w.heap.size + 1 := (Kd.R_own hm.row _ e.symm).1; omega)
           have ef1 : w1.frozen? ⟨w.heap.size + 1, 0, none⟩ = false := by
             have := hC.heap hm.bl (fun e => by have := (Kd.R_own hm.row _ e.symm).1; omega)
             simp [World.frozen?, this]
           clear hR hC el hm f1 f2 f3
           go_wp2
           go_roundw
           case rel => exact ⟨c + 1, A1, c1, by omega, by go_num, hm1⟩
           case measure => simp [intOf]; omega)
      · obtain rfl : c = M := by omega
        have hfin : Hid (ordLoop xs (((c : Int) - 1).toNat) (places c) k = drawOrd xs k n) := by
          have := HF.out
          rw [this]
          show ordLoop _ _ _ _ = _
          congr 1
          omega
        have hpl : (places c).length = c := by simp [places]
        have HPL := Lib.hid hpl
        clear HF HM hpl h0 h
        go_wp2
        go_loopw [8] (fun i wr' => ∃ i' : Int, ∃ l : List Int, ∃ k' : Nat, i = .int .i64 i' ∧ -1 ≤ i' ∧ i' < c ∧ Hid (l.length = c) ∧ Hid (ordLoop xs i'.toNat l k' = drawOrd xs k n) ∧ OrdMid w ok p xs (.slice A c cc) l k' wr') (fun i _ => (intOf i).toNat)
        case atStart => exact ⟨_, _, _, rfl, by omega, by omega, HPL, hfin, hm⟩
        case round =>
          obtain ⟨i', l, k', rfl, i1, i2, HL, HO, hm'⟩ := hrel
          clear hm el hfin HPL
          by_cases hpos : 0 < i'
          · obtain ⟨j, rfl⟩ : ∃ j : Nat, i' = (j : Int) + 1 := ⟨(i' - 1).toNat, by omega⟩
            obtain ⟨r, cap, hv⟩ : ∃ r cap, Value.slice A c cc = .slice (some ⟨r, 0, none⟩) c cap := by
              have hro := Kd.own_of_R hm'.row
              obtain ⟨r, cap, hv, _⟩ := hro.form (by have := HL.out; omega)
              rw [HL.out] at hv
              exact ⟨r, cap, hv⟩
            cases hv
            have hro := Kd.own_of_R hm'.row
            rw [HL.out] at hro
            have hr2 : w.heap.size + 2 ≤ r := (Kd.R_own hm'.row r rfl).1
            go_wp2_with fail
            refine (order_change hm'.d w.heap.size (w.heap.size + 1) r (w.heap.size + 2) c cc l hm'.bd hm'.bl hro (fun hb => by have := hok _ hb; omega) (fun hb => by have := hok _ hb; omega) (fun hb => by have := hok _ hb; omega) (by omega) (j + 1) (by omega) (by omega)).mono ?_
            rintro e w1 ⟨rfl, hd1, hr1, hc1⟩
            have hm1 := hm'.swap hok hd1 hr1 hc1
            have HL1 : Hid ((swapAt l (j + 1) (drawVal xs k' (((j + 1 : Nat) : Int) + 1)).toNat).length = c) := by rw [swapAt_length]; exact HL.out
            have HO1 : Hid (ordLoop xs ((j : Int)).toNat (swapAt l (j + 1) (drawVal xs k' (((j + 1 : Nat) : Int) + 1)).toNat) (k' + drawAdv xs k' (((j + 1 : Nat) : Int) + 1)) = drawOrd xs k n) := by
              have := HO.out
              rw [show ((j : Int) + 1).toNat = j + 1 from by omega] at this
              rw [← this, ordLoop, show (((j + 1 : Nat) : Int) + 1) = (j : Int) + 2 from by omega, Int.toNat_natCast]
              rfl
            clear hd1 hr1 hc1 hm' hro HL HO
            go_wp2
            go_roundw
            case rel => exact ⟨(j : Int), _, _, by go_num, by omega, by omega, HL1, HO1, hm1⟩
            case measure => simp [intOf]
          · have el' : wr.cell? ⟨w.heap.size + 1, 0, none⟩ = some (.slice A c cc) := by rw [cell_of_row wr _ 0 _ _ _ hm'.bl]; rfl
            have HE := Lib.hid (hm'.post (k := k) (n := n) (by rw [← HO.out, show i'.toNat = 0 from by omega]; rfl))
            clear HL HO
            go_wp2
            go_ret
            exact HE.out
theorem d_order {w : World} {ok : Nat → Prop} {p : Option Addr} {k : Nat} {xs : List Int} (h : IsD w ok p xs k) (n : Int) :
    Calls Try.prog 24 #[.pointer p, .int .i64 n] w (OrdPost w ok p xs k n) :=
  (d_order0 h.bound (fun b hb => hb.2) n).mono fun e w' ⟨v, he, hR, hd, hc⟩ => ⟨v, he, hR, hd.mono (fun b hb => hb.1), hc.mono (fun b hb => .inl hb.1)⟩

/-! ### Some -/
def someM (k : Int) (m : Nat) : Nat := (min (max k 0) m).toNat
def drawSome (xs : List Int) (k : Nat) (n many : Int) : List Int × Nat := ((drawOrd xs k n).1.take (someM many (ordM n)), (drawOrd xs k n).2)
/-- What a call leaves that tells a new list of numbers. -/
def ListPost (w : World) (ok : Nat → Prop) (p : Option Addr) (xs : List Int) (l : List Int) (k : Nat) (e : Ending) (w' : World) : Prop :=
  ∃ A c, e = .returned (.slice A l.length c) ∧ l.length ≤ c ∧ (Kd.int .i64).C w' (fun b => w.heap.size ≤ b) A l ∧ IsD w' ok p xs k ∧ Chg ok w w'
theorem OrdPost.list {w w' : World} {ok : Nat → Prop} {p : Option Addr} {xs : List Int} {k : Nat} {n : Int} {e : Ending} (h : OrdPost w ok p xs k n e w') : ListPost w ok p xs (drawOrd xs k n).1 (drawOrd xs k n).2 e w' := by
  obtain ⟨v, rfl, hR, hd, hc⟩ := h
  obtain ⟨A, c, rfl, hl, hC⟩ := Kd.R_C hR
  exact ⟨A, c, rfl, hl, hC, hd, hc⟩
end Go.Proofs.Ythjlgcooihpakaa
