import Derived.Test.YthleagjnhpjhiaaFold07
import Derived.Test.YthleagjnhpjhiaaFold02
import Derived.Test.YthleagjnhpjhiaaFold06
/- Orders: whether a field is there, and whether it may be. -/
namespace Go.Proofs.Ythleagjnhpjhiaa
open Go.RowKit
set_option linter.unusedVariables false
set_option linter.unusedSimpArgs false
set_option maxRecDepth 100000
section
variable {w : World} {p : Nat} {a : Addr}
theorem isEmpty_eq (s : ByteArray) : s.toList.isEmpty = decide (s = ByteArray.empty) := by
  rw [← str_eq, show ByteArray.empty.toList = [] from by simp [ByteArray.toList_eq]]
  cases s.toList <;> rfl
def Told (w : World) (b : Bool) (e : Ending) (w' : World) : Prop := e = .returned (.bool b) ∧ w' = w
theorem c_num_is {cb o : Nat} {n : Int} (hb : PtrBox w p ⟨cb, o, none⟩) (hv : w.cell? ⟨cb, o, none⟩ = some (.int .i64 n)) : Calls Try.prog 54 #[.pointer (some ⟨p, 0, none⟩)] w (Told w (n != 0)) := by
  have h0 := hb.cell
  go_enter Try.func54, Try.ntmps54
  go_wp2
  go_ret
  exact ⟨rfl, rfl⟩
theorem c_num_may {cb o : Nat} {n : Int} (hb : PtrBox w p ⟨cb, o, none⟩) (hv : w.cell? ⟨cb, o, none⟩ = some (.int .i64 n)) : Calls Try.prog 55 #[.pointer (some ⟨p, 0, none⟩)] w (Told w (decide (0 ≤ n) && decide (n ≤ 65535))) := by
  have h0 := hb.cell
  by_cases h1 : 0 ≤ n
  · have e1 : decide (0 ≤ n) = true := by simpa using h1
    rw [e1]
    go_enter Try.func55, Try.ntmps55
    go_wp2
    go_ret
    exact ⟨rfl, rfl⟩
  · have e1 : decide (0 ≤ n) = false := by simpa using h1
    rw [e1]
    go_enter Try.func55, Try.ntmps55
    go_wp2
    go_ret
    exact ⟨rfl, rfl⟩
theorem c_text_is {cb o : Nat} {s : ByteArray} (hb : PtrBox w p ⟨cb, o, none⟩) (hv : w.cell? ⟨cb, o, none⟩ = some (.string s)) : Calls Try.prog 60 #[.pointer (some ⟨p, 0, none⟩)] w (Told w (!decide (s = ByteArray.empty))) := by
  have h0 := hb.cell
  rw [← isEmpty_eq]
  go_enter Try.func60, Try.ntmps60
  go_wp2
  go_ret
  exact ⟨rfl, rfl⟩
theorem c_text_may {cb o : Nat} {s : ByteArray} (hb : PtrBox w p ⟨cb, o, none⟩) (hv : w.cell? ⟨cb, o, none⟩ = some (.string s)) (hs : s.size ≤ 9223372036854775807) : Calls Try.prog 61 #[.pointer (some ⟨p, 0, none⟩)] w (Told w (decide ((s.size : Int) ≤ 80))) := by
  have h0 := hb.cell
  go_enter Try.func61, Try.ntmps61
  go_wp2
  go_ret
  exact ⟨rfl, rfl⟩
theorem c_texts_is {cb o : Nat} {T : Option Addr} {n c : Nat} (hb : PtrBox w p ⟨cb, o, none⟩) (hv : w.cell? ⟨cb, o, none⟩ = some (.slice T n c)) : Calls Try.prog 66 #[.pointer (some ⟨p, 0, none⟩)] w (Told w (decide (0 < n))) := by
  have h0 := hb.cell
  go_enter Try.func66, Try.ntmps66
  go_wp2
  go_ret
  exact ⟨rfl, rfl⟩
theorem c_cmds_is {cb o : Nat} {T : Option Addr} {n c : Nat} (hb : PtrBox w p ⟨cb, o, none⟩) (hv : w.cell? ⟨cb, o, none⟩ = some (.slice T n c)) : Calls Try.prog 80 #[.pointer (some ⟨p, 0, none⟩)] w (Told w (decide (0 < n))) := by
  have h0 := hb.cell
  go_enter Try.func80, Try.ntmps80
  go_wp2
  go_ret
  exact ⟨rfl, rfl⟩
theorem c_flag_is {cb o : Nat} {b : Bool} (hb : PtrBox w p ⟨cb, o, none⟩) (hv : w.cell? ⟨cb, o, none⟩ = some (.bool b)) : Calls Try.prog 72 #[.pointer (some ⟨p, 0, none⟩)] w (Told w b) := by
  have h0 := hb.cell
  go_enter Try.func72, Try.ntmps72
  go_wp2
  go_ret
  exact ⟨rfl, rfl⟩
theorem c_flag_may : Calls Try.prog 73 #[] w (Told w true) := by
  go_enter Try.func73, Try.ntmps73
  go_wp2
  go_ret
  exact ⟨rfl, rfl⟩
theorem c_long_may : Calls Try.prog 77 #[] w (Told w true) := by
  go_enter Try.func77, Try.ntmps77
  go_wp2
  go_ret
  exact ⟨rfl, rfl⟩
theorem c_long_is {cb o : Nat} {n : Int} (hb : PtrBox w p ⟨cb, o, none⟩) (hv : w.cell? ⟨cb, o, none⟩ = some (.int .u64 n)) : Calls Try.prog 76 #[.pointer (some ⟨p, 0, none⟩)] w (Told w (n != 0)) := by
  have h0 := hb.cell
  go_enter Try.func76, Try.ntmps76
  go_wp2
  go_ret
  exact ⟨rfl, rfl⟩
def tagsOk (l : List ByteArray) : Bool := l.all fun s => decide (s.size ≤ 80)
theorem tagsOk_take {l : List ByteArray} {j : Nat} {s : ByteArray} (h : tagsOk (l.take j) = true) (hx : l[j]? = some s) (hs : s.size ≤ 80) : tagsOk (l.take (j + 1)) = true := by
  unfold tagsOk at h ⊢
  rw [List.take_add_one, hx, List.all_append, h]
  simpa using hs
theorem tagsOk_not {l : List ByteArray} {j : Nat} {s : ByteArray} (hx : l[j]? = some s) (hs : ¬ s.size ≤ 80) : tagsOk l = false := by
  unfold tagsOk
  rw [List.all_eq_false]
  exact ⟨s, List.mem_of_getElem? hx, by simpa using hs⟩
set_option maxHeartbeats 1000000 in
theorem c_texts_may {cb o : Nat} {ok : Nat → Prop} {T : Option Addr} {l : List ByteArray} {n c : Nat} (hb : PtrBox w p ⟨cb, o, none⟩) (hv : w.cell? ⟨cb, o, none⟩ = some (.slice T n c)) (hT : strK.C w ok T l) (hn : l.length = n) (hz : ∀ s ∈ l, s.size ≤ 9223372036854775807) : Calls Try.prog 67 #[.pointer (some ⟨p, 0, none⟩)] w (Told w (tagsOk l && decide (n ≤ 8))) := by
  have h0 := hb.cell
  have hsm := hT.small
  rw [hn] at hsm
  have HT := Lib.hid hT
  have HN := Lib.hid hn
  have HZ := Lib.hid hz
  clear hT hn hz hb
  go_enter Try.func67, Try.ntmps67
  go_wp2
  go_loopw [8] (fun v wr => ∃ j : Nat, j ≤ n ∧ v = .int .i64 j ∧ wr = w ∧ Hid (tagsOk (l.take j) = true)) (fun v _ => n - (intOf v).toNat)
  case atStart => exact ⟨0, Nat.zero_le _, rfl, rfl, rfl⟩
  case round =>
    obtain ⟨j, hj, rfl, hwr, HK⟩ := hrel
    subst hwr
    by_cases hlt : j < n
    · have b1 : (j : Int) < (n : Int) := by omega
      have b2 : (0 : Int) ≤ (j : Int) := by omega
      obtain ⟨s, hs⟩ : ∃ s, l[j]? = some s := ⟨_, List.getElem?_eq_getElem (by rw [HN.out]; exact hlt)⟩
      obtain ⟨ad, rfl, _, hsc⟩ := at_scalar HT.out hs
      have hsc' : wr.cell? (ad.add j) = some (.string s) := hsc
      have hz := HZ.out s (List.mem_of_getElem? hs)
      have HS := Lib.hid hs
      clear hs hsc
      by_cases h8 : s.size ≤ 80
      · have b3 : ¬ ((s.size : Int) > 80) := by omega
        have HNX := Lib.hid (tagsOk_take HK.out HS.out h8)
        go_wp2
        exact ⟨⟨j + 1, by omega, by go_num, trivial, HNX⟩, by simp [intOf]; omega⟩
      · have b3 : (s.size : Int) > 80 := by omega
        have HNX := Lib.hid (tagsOk_not HS.out h8)
        go_wp2
        go_ret
        rw [HNX.out]
        exact ⟨rfl, rfl⟩
    · obtain rfl : j = n := by omega
      have b1 : ¬ (j : Int) < (j : Int) := by omega
      have hall : tagsOk l = true := by
        have := HK.out
        rwa [List.take_of_length_le (by rw [HN.out]; exact Nat.le_refl _)] at this
      have HALL := Lib.hid hall
      clear hall
      go_wp2
      go_ret
      rw [HALL.out, Bool.true_and]
      exact ⟨by simp; omega, rfl⟩
end
end Go.Proofs.Ythleagjnhpjhiaa

/- Orders: which fields a kind has: the program's bits, the document's word. -/
namespace Go.Proofs.Ythleagjnhpjhiaa
open Go.RowKit
set_option linter.unusedVariables false
set_option linter.unusedSimpArgs false
set_option maxRecDepth 100000
theorem o_fields (w : World) (k : Int) : Calls Try.prog 16 #[.int .i64 k] w fun e w' => e = .returned (.int .i64 (hasN k)) ∧ w' = w := by
  by_cases h : 1 ≤ k ∧ k ≤ 18
  · rcases kinds h with rfl | rfl | rfl | rfl | rfl | rfl | rfl | rfl | rfl | rfl | rfl | rfl | rfl | rfl | rfl | rfl | rfl | rfl <;>
    · go_enter Try.func16, Try.ntmps16
      go_wp2
      go_ret
      exact ⟨rfl, rfl⟩
  · rw [hasN_none h]
    have e1 : (k == 1) = false := by simp; omega
    have e2 : (k == 2) = false := by simp; omega
    have e3 : (k == 3) = false := by simp; omega
    have e4 : (k == 4) = false := by simp; omega
    have e5 : (k == 5) = false := by simp; omega
    have e6 : (k == 6) = false := by simp; omega
    have e7 : (k == 7) = false := by simp; omega
    have e8 : (k == 8) = false := by simp; omega
    have e9 : (k == 9) = false := by simp; omega
    have e10 : (k == 10) = false := by simp; omega
    have e11 : (k == 11) = false := by simp; omega
    have e12 : (k == 12) = false := by simp; omega
    have e13 : (k == 13) = false := by simp; omega
    have e14 : (k == 14) = false := by simp; omega
    have e15 : (k == 15) = false := by simp; omega
    have e16 : (k == 16) = false := by simp; omega
    have e17 : (k == 17) = false := by simp; omega
    have e18 : (k == 18) = false := by simp; omega
    clear h
    go_enter Try.func16, Try.ntmps16
    go_wp2
    go_ret
    exact ⟨rfl, rfl⟩
theorem hasS_none {k : Int} (h : ¬ (1 ≤ k ∧ k ≤ 18)) : hasS k = ⟨#[]⟩ := by unfold hasS; rw [hasN_none h]; rfl
set_option maxHeartbeats 4000000 in
theorem r_has (w : World) (k : Int) : Calls Try.prog 18 #[.int .i64 k] w fun e w' => e = .returned (.string (hasS k)) ∧ Chg nob w w' := by
  by_cases h : 1 ≤ k ∧ k ≤ 18
  · rcases kinds h with rfl | rfl | rfl | rfl | rfl | rfl | rfl | rfl | rfl | rfl | rfl | rfl | rfl | rfl | rfl | rfl | rfl | rfl <;>
    · go_enter Try.func18, Try.ntmps18
      go_wp2
      go_ret
      exact ⟨by kernel_rfl, (Chg.refl nob w).alloc _⟩
  · rw [hasS_none h]
    by_cases h1 : k < 1
    · go_enter Try.func18, Try.ntmps18
      go_wp2
      go_ret
      exact ⟨rfl, Chg.refl nob w⟩
    · have h2 : k > 18 := by omega
      go_enter Try.func18, Try.ntmps18
      go_wp2
      go_ret
      exact ⟨rfl, Chg.refl nob w⟩
/-- A letter of the word. -/
theorem hasS_at {k : Int} (h : hasN k ≠ 0) {j : Nat} (hj : j < 16) : (hasS k).data[j]? = some (if bitN (hasN k) j then 120 else 46) := by
  unfold hasS
  rw [if_neg h]
  simp [hj]
theorem hasS_size {k : Int} (h : hasN k ≠ 0) : (hasS k).size = 16 := by
  unfold hasS
  rw [if_neg h]
  rfl
end Go.Proofs.Ythleagjnhpjhiaa
