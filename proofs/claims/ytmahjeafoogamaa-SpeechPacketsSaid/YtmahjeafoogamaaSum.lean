/- The sum of bytes: what a call of moved, From, Sum, Bytes does. -/
import Derived.Test.YtmahjeafoogamaaSumLaws
import Derived.Test.YtmahjeafoogamaaBytes
import Derived.Laws.BitsAllLaws
import Derived.Handy
namespace Go.Proofs.Ytmahjeafoogamaa
open Go.RowKit
set_option linter.unusedVariables false
set_option linter.unusedSimpArgs false
theorem wrap_u32 (n : Nat) : IntKind.u32.wrap (n : Int) = ((n % 4294967296 : Nat) : Int) := by
  show (n : Int) % 4294967296 = _
  omega
/-- A register as a whole number. -/
def rv (r : B32) : Int := (r.toNat : Int)
theorem rv_lt (r : B32) : 0 ≤ rv r ∧ rv r < 4294967296 := by
  have := r.isLt
  unfold rv
  omega
theorem xor_rv (a b : B32) : Go.bits .xor .u32 (rv a) (rv b) = rv (a ^^^ b) := by
  unfold rv
  rw [u32_xor_nat _ _ a.isLt b.isLt, BitVec.toNat_xor]
theorem shl_rv (a : B32) : IntKind.u32.wrap (rv a * 2) = rv (a <<< 1) := by
  unfold rv
  rw [show ((a.toNat : Int) * 2) = ((a.toNat * 2 : Nat) : Int) from by omega, wrap_u32, BitVec.toNat_shiftLeft, Nat.shiftLeft_eq]
theorem msb_rv (a : B32) : a.msb = decide (rv a / 2147483648 = 1) := by
  unfold rv
  rw [BitVec.msb_eq_decide]
  rw [decide_eq_decide]
  have := a.isLt
  omega
theorem not_rv (a : B32) : Go.bits .xor .u32 IntKind.u32.max (rv a) = rv (~~~ a) := by
  rw [show IntKind.u32.max = rv (BitVec.allOnes 32) from rfl, xor_rv, BitVec.xor_comm, BitVec.xor_allOnes]
theorem high_rv (x : UInt8) : (x.toNat : Int) * 16777216 = rv (high x) := by
  unfold high rv
  rw [show ((x.toNat : Int) * 16777216) = ((x.toNat * 16777216 : Nat) : Int) from by omega, BitVec.toNat_shiftLeft, BitVec.toNat_setWidth, Nat.shiftLeft_eq]
  have := x.toNat_lt
  rw [show x.toBitVec.toNat = x.toNat from rfl]
  omega
theorem ret_u32 {a b : Int} (h : a = b) : Ending.returned (.int .u32 a) = .returned (.int .u32 b) := by rw [h]
theorem m_one {w : World} (r : B32) : Calls Try.prog 81 #[.int .u32 (rv r)] w fun e w' => e = .returned (.int .u32 (rv (one r))) ∧ w = w' := by
  have HX := Lib.hid (shl_rv r)
  have HO := Lib.hid (xor_rv (r <<< 1) over)
  have hm := msb_rv r
  by_cases hb : rv r / 2147483648 = 1
  · rw [decide_eq_true hb] at hm
    have HR : Hid (one r = (r <<< 1) ^^^ over) := by show _ = _; rw [one, hm]; rfl
    clear hm
    go_enter Try.func81, Try.ntmps81
    go_wp2
    go_ret
    exact ⟨ret_u32 (by rw [HR.out, ← HO.out, ← HX.out]; rfl), rfl⟩
  · rw [decide_eq_false hb] at hm
    have HR : Hid (one r = (r <<< 1)) := by show _ = _; rw [one, hm]; simp
    clear hm
    go_enter Try.func81, Try.ntmps81
    go_wp2
    go_ret
    exact ⟨ret_u32 (by rw [HR.out, ← HX.out]; rfl), rfl⟩
theorem m_moved {w : World} (r : B32) (n : Nat) (hn : n ≤ 1000) : Calls Try.prog 72 #[.int .u32 (rv r), .int .i64 n] w fun e w' => e = .returned (.int .u32 (rv (ones n r))) ∧ w = w' := by
  go_enter Try.func72, Try.ntmps72
  go_wp2
  go_loop [0, 7] (fun v i => ∃ j : Nat, j ≤ n ∧ v = .int .u32 (rv (ones j r)) ∧ i = .int .i64 j) (fun _ i => n - (intOf i).toNat)
  case atStart => exact ⟨0, Nat.zero_le _, rfl, rfl⟩
  case round =>
    obtain ⟨j, hj, rfl, rfl⟩ := hrel
    by_cases hlt : j < n
    · have b1 : (j : Int) < (n : Int) := by omega
      have HS := Lib.hid (ones_succ j r)
      go_wp2_with (go_at_call 81; refine (m_one (ones j r)).mono ?_; rintro e w' ⟨rfl, rfl⟩)
      go_round
      case rel => exact ⟨j + 1, by omega, by rw [HS.out], by go_num⟩
      case measure => simp [intOf]; omega
    · have b1 : ¬ (j : Int) < (n : Int) := by omega
      go_wp2
      go_ret
      rw [show j = n from by omega]
      exact ⟨rfl, rfl⟩
theorem regs_next (r : B32) {l : List UInt8} {j : Nat} {x : UInt8} (h : l[j]? = some x) : regs r (l.take (j + 1)) = ones 8 (regs r (l.take j) ^^^ high x) := by
  obtain ⟨hj, rfl⟩ := List.getElem?_eq_some_iff.1 h
  rw [List.take_succ_eq_append_getElem hj, regs_append, regs_cons]
  rfl
theorem m_from {w : World} (s : B32) {ok : Nat → Prop} {A : Option Addr} {m c : Nat} {bs : List UInt8} (hb : Kd.byte.C w ok A bs) (hm : bs.length = m) :
    Calls Try.prog 69 #[.int .u32 (rv s), .slice A m c] w fun e w' => e = .returned (.int .u32 (rv (crcFrom s bs))) ∧ w = w' := by
  have hsm := hb.small
  rw [hm] at hsm
  have HB := Lib.hid hb
  have HM := Lib.hid hm
  have HN := Lib.hid (not_rv s)
  have hsg : IntKind.u32.signed = false := rfl
  clear hb hm
  go_enter Try.func69, Try.ntmps69
  go_wp2
  rw [HN.out]
  go_loop [5, 12] (fun v i => ∃ j : Nat, j ≤ m ∧ v = .int .u32 (rv (regs (~~~ s) (bs.take j))) ∧ i = .int .i64 j) (fun _ i => m - (intOf i).toNat)
  case atStart => exact ⟨0, Nat.zero_le _, rfl, rfl⟩
  case round =>
    obtain ⟨j, hj, rfl, rfl⟩ := hrel
    by_cases hlt : j < m
    · obtain ⟨x, hx⟩ : ∃ x, bs[j]? = some x := ⟨_, List.getElem?_eq_getElem (by rw [HM.out]; exact hlt)⟩
      obtain ⟨ad, rfl, _, ha⟩ := at_scalar HB.out hx
      have ha' : w.cell? (ad.add j) = some (.int .u8 x.toNat) := ha
      have b1 : (0 : Int) ≤ (j : Int) := by omega
      have b2 : (j : Int) < (m : Int) := by omega
      have HX := Lib.hid (regs_next (~~~ s) hx)
      obtain ⟨r, hr⟩ : ∃ r, regs (~~~ s) (bs.take j) = r := ⟨_, rfl⟩
      rw [hr] at HX ⊢
      have HH := Lib.hid (high_rv x)
      have HO := Lib.hid (xor_rv r (high x))
      have hxl := x.toNat_lt
      clear hx ha hr
      go_wp2_with fail
      rw [HH.out, HO.out]
      refine (m_moved _ 8 (by decide)).mono ?_
      rintro e w' ⟨rfl, rfl⟩
      go_wp2
      go_round
      case rel => exact ⟨j + 1, by omega, by rw [HX.out], by go_num⟩
      case measure => simp [intOf]; omega
    · have b1 : ¬ (j : Int) < (m : Int) := by omega
      have HE := Lib.hid (not_rv (regs (~~~ s) (bs.take j)))
      have HF : Hid (crcFrom s bs = ~~~ (regs (~~~ s) (bs.take j))) := by show _ = _; rw [crcFrom, List.take_of_length_le (by rw [HM.out]; omega)]
      go_wp2
      go_ret
      exact ⟨ret_u32 (by rw [HF.out, ← HE.out]), rfl⟩
/-- Sum of two rows. -/
theorem m_sum2 {w : World} {ok ok2 : Nat → Prop} {A B : Option Addr} {m c n d g : Nat} {xs ys : List UInt8} (ha : Kd.byte.C w ok A xs) (hm : xs.length = m) (hb : Kd.byte.C w ok2 B ys) (hn : ys.length = n)
    (h0 : w.cell? ⟨g, 0, none⟩ = some (.slice A m c)) (h1 : w.cell? ⟨g, 1, none⟩ = some (.slice B n d)) :
    Calls Try.prog 63 #[.slice (some ⟨g, 0, none⟩) 2 2] w fun e w' => e = .returned (.int .u32 (rv (crc (xs ++ ys)))) ∧ w = w' := by
  have HA := Lib.hid ha
  have HB := Lib.hid hb
  have HM := Lib.hid hm
  have HN := Lib.hid hn
  have HF : Hid (crcFrom (crcFrom 0#32 xs) ys = crc (xs ++ ys)) := crcFrom_append _ _ _
  have HZ : Hid ((0 : Int) = rv 0#32) := rfl
  clear ha hb hm hn
  go_enter Try.func63, Try.ntmps63
  go_wp2
  go_loop [3, 8] (fun v i => (v = .int .u32 (rv 0#32) ∧ i = .int .i64 0) ∨ (v = .int .u32 (rv (crcFrom 0#32 xs)) ∧ i = .int .i64 1) ∨ (v = .int .u32 (rv (crcFrom (crcFrom 0#32 xs) ys)) ∧ i = .int .i64 2)) (fun _ i => 2 - (intOf i).toNat)
  case atStart => exact .inl ⟨rfl, rfl⟩
  case round =>
    rcases hrel with ⟨rfl, rfl⟩ | ⟨rfl, rfl⟩ | ⟨rfl, rfl⟩
    · go_wp2_with fail
      refine (m_from 0#32 HA.out HM.out).mono ?_
      rintro e w' ⟨rfl, rfl⟩
      go_wp2
      go_round
      case rel => exact .inr (.inl ⟨rfl, rfl⟩)
      case measure => decide
    · go_wp2_with fail
      refine (m_from _ HB.out HN.out).mono ?_
      rintro e w' ⟨rfl, rfl⟩
      go_wp2
      go_round
      case rel => exact .inr (.inr ⟨rfl, rfl⟩)
      case measure => decide
    · go_wp2
      go_ret
      exact ⟨ret_u32 (by rw [HF.out]), rfl⟩
/-- Sum of one row. -/
theorem m_sum1 {w : World} {ok : Nat → Prop} {A : Option Addr} {m c g : Nat} {xs : List UInt8} (ha : Kd.byte.C w ok A xs) (hm : xs.length = m)
    (h0 : w.cell? ⟨g, 0, none⟩ = some (.slice A m c)) :
    Calls Try.prog 63 #[.slice (some ⟨g, 0, none⟩) 1 1] w fun e w' => e = .returned (.int .u32 (rv (crc xs))) ∧ w = w' := by
  have HA := Lib.hid ha
  have HM := Lib.hid hm
  clear ha hm
  go_enter Try.func63, Try.ntmps63
  go_wp2
  go_loop [3, 8] (fun v i => (v = .int .u32 (rv 0#32) ∧ i = .int .i64 0) ∨ (v = .int .u32 (rv (crcFrom 0#32 xs)) ∧ i = .int .i64 1)) (fun _ i => 1 - (intOf i).toNat)
  case atStart => exact .inl ⟨rfl, rfl⟩
  case round =>
    rcases hrel with ⟨rfl, rfl⟩ | ⟨rfl, rfl⟩
    · go_wp2_with fail
      refine (m_from 0#32 HA.out HM.out).mono ?_
      rintro e w' ⟨rfl, rfl⟩
      go_wp2
      go_round
      case rel => exact .inr ⟨rfl, rfl⟩
      case measure => decide
    · go_wp2
      go_ret
      exact ⟨rfl, rfl⟩
theorem byte_rv (s : B32) (k : Nat) (hk : k < 4) : ∃ x : UInt8, (be4 s)[k]? = some x ∧ IntKind.u8.wrap (rv s / 2 ^ (24 - 8 * k)) = (x.toNat : Int) := by
  have e : ∀ j, (UInt8.ofBitVec (s.extractLsb' j 8)).toNat = s.toNat / 2 ^ j % 256 := fun j => by
    show (s.extractLsb' j 8).toNat = _
    rw [BitVec.extractLsb'_toNat, Nat.shiftRight_eq_div_pow]
  have h2 : ∀ j, IntKind.u8.wrap (rv s / 2 ^ j) = ((s.toNat / 2 ^ j % 256 : Nat) : Int) := fun j => by
    show (rv s / 2 ^ j) % 256 = _
    unfold rv
    simp
  have : k = 0 ∨ k = 1 ∨ k = 2 ∨ k = 3 := by omega
  rcases this with rfl | rfl | rfl | rfl
  · exact ⟨_, rfl, by rw [h2, e]⟩
  · exact ⟨_, rfl, by rw [h2, e]⟩
  · exact ⟨_, rfl, by rw [h2, e]⟩
  · exact ⟨_, rfl, by rw [h2, e]⟩
/-- The row of Bytes behind k rounds. -/
def be4K (s : B32) (k : Nat) : List UInt8 := (be4 s).take k ++ List.replicate (4 - k) 0
theorem be4K_len {s : B32} {k : Nat} (hk : k ≤ 4) : (be4K s k).length = 4 := by simp [be4K, be4_len]; omega
theorem be4K_set {s : B32} {k : Nat} (hk : k < 4) {x : UInt8} (hx : (be4 s)[k]? = some x) : (be4K s k).set k x = be4K s (k + 1) := by
  have : k = 0 ∨ k = 1 ∨ k = 2 ∨ k = 3 := by omega
  rcases this with rfl | rfl | rfl | rfl <;> (simp [be4] at hx; subst hx; simp [be4K, be4])
theorem m_bytes {w : World} (s : B32) : Calls Try.prog 62 #[.int .u32 (rv s)] w fun e w' => ∃ g, e = .returned (.slice (some ⟨g, 0, none⟩) 4 4) ∧ w.heap.size ≤ g ∧ Kd.byte.C w' (fun b => b = g) (some ⟨g, 0, none⟩) (be4 s) ∧ Chg nob w w' := by
  have hmk : ∀ w, (Instr.makeSlice 26 (.int .i64 4) (.int .i64 4)).run Try.prog w = .ok (.slice (some ⟨w.heap.size, 0, none⟩) 4 4) (w.alloc (.cells #[.int .u8 0, .int .u8 0, .int .u8 0, .int .u8 0] 5)) := fun _ => by kernel_rfl
  have h5 := heap_alloc_new w (.cells #[.int .u8 0, .int .u8 0, .int .u8 0, .int .u8 0] 5)
  have hc5 : Chg nob w (w.alloc (.cells #[.int .u8 0, .int .u8 0, .int .u8 0, .int .u8 0] 5)) := (Chg.refl _ _).alloc _
  go_enter Try.func62, Try.ntmps62
  go_wp2
  generalize hg : w.heap.size = g at h5 ⊢
  generalize w.alloc (.cells #[.int .u8 0, .int .u8 0, .int .u8 0, .int .u8 0] 5) = w1 at h5 hc5 ⊢
  have h6 : Hid (w1.heap[g]? = some (.cells ((be4K s 0).map encB).toArray 5 (0, 0))) := h5
  have HG : Hid (w.heap.size ≤ g) := Nat.le_of_eq hg
  have HC := Lib.hid hc5
  clear hmk h5 hc5 hg
  go_loopw [6, 4] (fun i v wr => ∃ k : Nat, k ≤ 4 ∧ i = .int .i64 k ∧ Hid (wr.heap[g]? = some (.cells ((be4K s k).map encB).toArray 5 (0, 0))) ∧ Hid (Chg nob w wr)) (fun i _ _ => 4 - (intOf i).toNat)
  case atStart => exact ⟨0, by decide, rfl, h6, HC⟩
  case round =>
    obtain ⟨k, hk, rfl, hB, hC⟩ := hrel
    clear h6 HC
    by_cases hlt : k < 4
    · have b1 : (k : Int) < 4 := by omega
      have b2 : (0 : Int) ≤ (k : Int) := by omega
      obtain ⟨x, hx, hv⟩ := byte_rv s k hlt
      obtain ⟨⟨v0, hv0⟩, f0⟩ := block_at (i := k) hB.out (by rw [be4K_len hk]; exact hlt)
      have HS : Hid ((wr.setCell ⟨g, k, none⟩ (encB x)).heap[g]? = some (.cells ((be4K s (k + 1)).map encB).toArray 5 (0, 0))) := by
        show _ = _
        rw [← be4K_set hlt hx]
        exact block_set hB.out
      have HV : Hid (Value.int .u8 (IntKind.u8.wrap (rv s / 2 ^ (24 - 8 * k))) = encB x) := by show _ = _; rw [hv]; rfl
      have HC2 : Hid (Chg nob w (wr.setCell ⟨g, k, none⟩ (encB x))) := hC.out.setCell (.inr HG.out) _
      clear hx hv
      go_wp2
      rw [show Value.int .u8 (rv s / 2 ^ (24 - 8 * k) % 256) = encB x from HV.out]
      exact ⟨⟨k + 1, by omega, by go_num, HS, HC2⟩, by simp [intOf]; omega⟩
    · have b1 : ¬ (k : Int) < 4 := by omega
      obtain rfl : k = 4 := by omega
      have hB2 := C_block (o := 0) (xs := be4 s) hB.out (by simp [be4K, be4]) (by rw [be4_len]; decide)
      go_wp2
      go_ret
      exact ⟨g, rfl, HG.out, hB2, hC.out⟩
end Go.Proofs.Ytmahjeafoogamaa
