/- The law DrawOrders: the walk. -/
import Derived.Test.YtmjdcbhjpbjihaaDrawLaws
import Derived.Test.YtmjdcbhjpbjihaaDrawOrd
import Derived.Deep.OwnRows
namespace Go.Proofs.Ytmjdcbhjpbjihaa
open Go.RowKit
set_option linter.unusedVariables false

theorem swapAt_perm (l : List Int) (i j : Nat) (hi : i < l.length) (hj : j < l.length) : (swapAt l i j).Perm l := by
  unfold swapAt
  rw [List.getD_eq_getElem?_getD, List.getD_eq_getElem?_getD, List.getElem?_eq_getElem hi, List.getElem?_eq_getElem hj]
  exact List.set_set_perm hi hj
theorem ordLoop_perm (xs : List Int) (hx : ∀ x ∈ xs, 0 ≤ x ∧ x < 4294967296) (i : Nat) : ∀ (l : List Int) (k : Nat), i < l.length ∨ i = 0 → (ordLoop xs i l k).1.Perm l := by
  induction i with
  | zero => intro l k _; exact List.Perm.refl _
  | succ i ih =>
    intro l k hi
    have hb := drawVal_bd hx k ((i : Int) + 2)
    rw [ordLoop]
    refine (ih _ _ ?_).trans (swapAt_perm l _ _ (by omega) (by omega))
    rw [swapAt_length]
    omega
theorem drawOrd_perm (xs : List Int) (hx : ∀ x ∈ xs, 0 ≤ x ∧ x < 4294967296) (k : Nat) (n : Int) : (drawOrd xs k n).1.Perm (places (ordM n)) := by
  unfold drawOrd
  exact ordLoop_perm xs hx _ _ _ (by simp [places]; omega)
theorem places_nodup (m : Nat) : (places m).Nodup := by
  unfold places
  rw [List.Nodup, List.pairwise_map]
  exact List.Pairwise.imp (fun h e => h (by omega)) List.nodup_range
theorem places_mem (m : Nat) (x : Int) (h : x ∈ places m) : ∃ q : Nat, x = q ∧ q < m := by
  unfold places at h
  obtain ⟨q, hq, rfl⟩ := List.mem_map.1 h
  exact ⟨q, rfl, List.mem_range.1 hq⟩
/-- What is known of a row in another order. -/
structure Ordered (M : Nat) (l : List Int) : Prop where
  len : l.length = M
  mem : ∀ x ∈ l, ∃ q : Nat, x = q ∧ q < M
  nodup : l.Nodup
theorem drawOrd_ordered (xs : List Int) (hx : ∀ x ∈ xs, 0 ≤ x ∧ x < 4294967296) (k : Nat) (n : Int) : Ordered (ordM n) (drawOrd xs k n).1 :=
  ⟨drawOrd_length xs k n, fun x h => places_mem _ x ((drawOrd_perm xs hx k n).mem_iff.1 h), (drawOrd_perm xs hx k n).nodup_iff.2 (places_nodup _)⟩
theorem nodup_at {l : List Int} (h : l.Nodup) {j : Nat} {x : Int} (hx : l[j]? = some x) : x ∉ l.take j := by
  intro hm
  obtain ⟨i, hi⟩ := List.mem_iff_getElem?.1 hm
  rw [List.getElem?_take] at hi
  split at hi
  · rename_i hij
    have h1 : i < l.length := (List.getElem?_eq_some_iff.1 hi).1
    have := (List.getElem?_inj h1 h).1 (hi.trans hx.symm)
    omega
  · cases hi
theorem bool_info : (Try.prog.info? 4).map (fun i => (i.zero, i.size, i.bytes)) = some (some (.bool false), 1, 1) := by kernel_rfl
/-- Sixty-four places of which none is there. -/
def none64 : Array Value := madeCells #[.bool false] 64
theorem make64 : ∀ w : World, (Instr.makeSlice 31 (.int .i64 64) (.int .i64 64)).run Try.prog w = .ok (.slice (some ⟨w.heap.size, 0, none⟩) 64 64) (w.alloc (.cells none64 4)) := fun w =>
  run_make_row' 31 4 (.bool false) 1 Try.underlying31 bool_info rfl .i64 .i64 64 (by decide) (by decide) w
theorem own64 (w : World) : (w.alloc (.cells none64 4)).ownsRow w.heap.size 4 1 (.slice (some ⟨w.heap.size, 0, none⟩) 64 64) 64 ((List.replicate 64 false).map Value.bool) := by
  have h := World.ownsRow_lit (base := w.heap.size) (e := 4) (size := 1) w none64 64 (Nat.le_refl _) (by simp [maxLen]) (by unfold none64; exact size_madeCells _ _)
  have e : none64.toList = (List.replicate 64 false).map Value.bool := by rw [none64, toList_madeCells_one, List.map_replicate]
  rwa [e] at h
set_option maxHeartbeats 2000000 in
theorem drawOrders_walk {w : World} {ok : Nat → Prop} {A : Option Addr} {c : Nat} {xs : List Int} (h : (Kd.int .u32).C w ok A xs) (hc : xs.length ≤ c) (hb : ∀ x ∈ xs, 0 ≤ x ∧ x < 4294967296) (n : Int) :
    Calls Try.prog 4 #[.slice A xs.length c, .int .i64 n] w fun e w' => e = .returned (.bool true) ∧ Chg nob w w' := by
  have hM := ordM_eq n
  have hM2 := ordM_le n
  go_enter Try.func4, Try.ntmps4
  go_wp2_with fail
  refine (draw_new h hc hb).mono ?_
  rintro e w1 ⟨g, rfl, hd, hc1⟩
  have ho := drawOrd_ordered (xs.take 4096) hd.bd 0 n
  go_wp2_with fail
  refine (d_order (.of hd) n).mono ?_
  rintro e w2 hp
  obtain ⟨B, d, rfl, hl, hC, _, hc2⟩ := hp.list
  generalize (drawOrd (xs.take 4096) 0 n).1 = l at *
  have hS : Chg nob w w2 := hc1.trans hc2 (fun i hi => .inr hi)
  clear h hc hb hd hp hc1 hc2
  have hll := ho.len
  rw [hll] at hl ⊢
  generalize ordM n = M at *
  have HM := Lib.hid hM
  have HL := Lib.hid hll
  clear hM hll
  have hn : (n < 0 ∧ (M : Int) ≤ 0 ∧ (0 : Int) ≤ M) ∨ (64 < n ∧ (M : Int) ≤ 64 ∧ (64 : Int) ≤ M) ∨ (0 ≤ n ∧ n ≤ 64 ∧ (M : Int) ≤ n ∧ n ≤ M) := by have := HM.out; omega
  have hmk := make64
  rcases hn with ⟨n1, n2, n3⟩ | ⟨n1, n2, n3⟩ | ⟨n1, n4, n2, n3⟩
  all_goals
    go_wp2
    have hT : w2.heap.size < (w2.alloc (.cells none64 4)).heap.size := by simp
    go_loopw [9] (fun i wr => ∃ k : Nat, k ≤ M ∧ i = .int .i64 k ∧ Chg (fun b => b = w2.heap.size) w2 wr ∧ ∃ Bs : List Bool, wr.ownsRow w2.heap.size 4 1 (.slice (some ⟨w2.heap.size, 0, none⟩) 64 64) 64 (Bs.map Value.bool) ∧ Hid (∀ q : Nat, Bs.getD q false = true → (q : Int) ∈ l.take k)) (fun i _ => M - (intOf i).toNat)
    case atStart => exact ⟨0, Nat.zero_le _, rfl, (Chg.refl _ _).alloc _, _, own64 w2, fun q hq => by rw [List.getD_eq_getElem?_getD, List.getElem?_replicate] at hq; split at hq <;> simp at hq⟩
    case round =>
      obtain ⟨k, hk, rfl, hcr, Bs, hB, HB⟩ := hrel
      by_cases hlt : k < M
      · first
        | (exfalso; omega)
        | (obtain ⟨x, hx⟩ : ∃ x, l[k]? = some x := ⟨_, List.getElem?_eq_getElem (by rw [HL.out]; exact hlt)⟩
           obtain ⟨q, rfl, hq⟩ := ho.mem x (List.mem_of_getElem? hx)
           have hnm := nodup_at ho.nodup hx
           have hCr := Kd.C_chg (Kd.C_bound hC) hcr (fun b hb e => by omega)
           obtain ⟨bd, rfl, _, hb⟩ := at_scalar hCr hx
           have hb' : wr.cell? (bd.add k) = some (.int .i64 q) := hb
           have hBl : Bs.length = 64 := by have := hB.1; simpa using this
           have hBq : Bs.getD q false = false := by
             cases hv : Bs.getD q false with
             | false => rfl
             | true => exact absurd (HB.out q hv) hnm
           have ht : wr.cell? ⟨w2.heap.size, q, none⟩ = some (.bool false) := by
             rw [hB.cellAt q (by omega), List.getElem?_map, List.getElem?_eq_getElem (by omega)]
             rw [List.getD_eq_getElem?_getD, List.getElem?_eq_getElem (by omega)] at hBq
             rw [show Bs[q] = false from hBq]
             rfl
           have hf := hB.frozenAt q
           have hS2 := (hB.stored q (.bool true)).1
           rw [← List.map_set] at hS2
           have hN : Hid (∀ q' : Nat, (Bs.set q true).getD q' false = true → (q' : Int) ∈ l.take (k + 1)) := by
             intro q' h'
             rw [List.take_add_one, hx]
             by_cases e : q' = q
             · subst e; simp
             · rw [List.getD_eq_getElem?_getD, List.getElem?_set_ne (Ne.symm e), ← List.getD_eq_getElem?_getD] at h'
               exact List.mem_append_left _ (HB.out q' h')
           have hc2 := hcr.set1 q (.bool true)
           have b1 : (0 : Int) ≤ (k : Int) := by omega
           have b2 : (k : Int) < (M : Int) := by omega
           have b3 : (0 : Int) ≤ (q : Int) := by omega
           have b4 : (q : Int) < 64 := by omega
           clear hBq hBl hB HB hb hCr hnm hx hcr
           go_wp2
           go_roundw
           case rel => exact ⟨k + 1, by omega, by go_num, hc2, _, hS2, hN⟩
           case measure => simp [intOf]; omega)
      · obtain rfl : k = M := by omega
        have hSr : Chg nob w wr := hS.trans hcr (fun b hb => .inr (by have := hS.size; omega))
        clear hB HB
        go_wp2_with fail
        refine (draw_works wr).mono ?_
        rintro e w9 ⟨rfl, hc9⟩
        go_wp2
        go_ret
        exact ⟨rfl, hSr.thenNew hc9⟩
end Go.Proofs.Ytmjdcbhjpbjihaa
