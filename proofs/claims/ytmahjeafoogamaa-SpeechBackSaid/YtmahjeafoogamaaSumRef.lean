/- The sum of bytes: what a call of the reference's From, Sum, Sealed does. -/
import Derived.Test.YtmahjeafoogamaaSumSealed
namespace Go.Proofs.Ytmahjeafoogamaa
open Go.RowKit
set_option linter.unusedVariables false
set_option linter.unusedSimpArgs false
theorem shl_ref (r : B32) : (rv r % (2147483648 : Int) * (2 : Int) : Int) = rv (r <<< 1) := by
  rw [← shl_rv]
  show _ = (rv r * 2) % 4294967296
  have := rv_lt r
  omega
/-- A byte behind i rounds. -/
def xAt (x : UInt8) (i : Nat) : Nat := x.toNat * 2 ^ i % 256
theorem xAt_next (x : UInt8) (i : Nat) : xAt x i % 128 * 2 = xAt x (i + 1) := by
  unfold xAt
  rw [Nat.pow_succ, ← Nat.mul_assoc]
  generalize x.toNat * 2 ^ i = y
  omega
theorem xAt_lt (x : UInt8) (i : Nat) : xAt x i < 256 := Nat.mod_lt _ (by decide)
theorem xAt_bit (x : UInt8) {i : Nat} (hi : i < 8) : (bitsB x)[i]? = some (decide (xAt x i / 128 = 1)) := by
  have h : ∀ y : BitVec 8, ∀ j : Fin 8, y.getLsbD (7 - j) = decide (y.toNat * 2 ^ j.val % 256 / 128 = 1) := by decide +kernel
  have e : (bitsB x)[i]? = some (x.toBitVec.getLsbD (7 - i)) := by
    have : i = 0 ∨ i = 1 ∨ i = 2 ∨ i = 3 ∨ i = 4 ∨ i = 5 ∨ i = 6 ∨ i = 7 := by omega
    rcases this with rfl | rfl | rfl | rfl | rfl | rfl | rfl | rfl <;> rfl
  rw [e]
  exact congrArg some (h x.toBitVec ⟨i, hi⟩)
theorem top_shl (b : Bool) : top b <<< 1 = 0#32 := by cases b <;> decide
theorem top_msb (b : Bool) : (top b).msb = b := by cases b <;> decide
theorem feed_shl (r : B32) (b : Bool) : feed r b = (r <<< 1) ^^^ (if (r.msb ^^ b) = true then over else 0#32) := by
  unfold feed one
  rw [BitVec.shiftLeft_xor_distrib, top_shl, BitVec.xor_zero, BitVec.msb_xor, top_msb]
theorem feed_same {r : B32} {X : Nat} (hX : X < 256) (h : rv r / 2147483648 = (X : Int) / 128) : rv r % 2147483648 * 2 = rv (feed r (decide (X / 128 = 1))) := by
  rw [feed_shl, msb_rv, shl_ref]
  have : decide (rv r / 2147483648 = 1) = decide (X / 128 = 1) := by rw [decide_eq_decide]; omega
  rw [this]
  simp
theorem feed_other {r : B32} {X : Nat} (hX : X < 256) (h : ¬ rv r / 2147483648 = (X : Int) / 128) : Go.bits .xor .u32 (rv r % 2147483648 * 2) 79764919 = rv (feed r (decide (X / 128 = 1))) := by
  have hr := rv_lt r
  rw [feed_shl, msb_rv, shl_ref, show (79764919 : Int) = rv over from rfl, xor_rv]
  by_cases h1 : rv r / 2147483648 = 1
  · have h2 : ¬ X / 128 = 1 := by omega
    simp [h1, h2]
  · have h2 : X / 128 = 1 := by omega
    simp [h1, h2]
theorem feeds_next (r : B32) (x : UInt8) {i : Nat} (hi : i < 8) : feeds r ((bitsB x).take (i + 1)) = feed (feeds r ((bitsB x).take i)) (decide (xAt x i / 128 = 1)) := by
  have h := xAt_bit x hi
  obtain ⟨hj, he⟩ := List.getElem?_eq_some_iff.1 h
  rw [List.take_succ_eq_append_getElem hj, he, feeds_append]
  rfl
theorem rs_from {w : World} (s : B32) {ok : Nat → Prop} {A : Option Addr} {m c : Nat} {bs : List UInt8} (hb : Kd.byte.C w ok A bs) (hm : bs.length = m) :
    Calls Try.prog 73 #[.int .u32 (rv s), .slice A m c] w fun e w' => e = .returned (.int .u32 (rv (crcFrom s bs))) ∧ w = w' := by
  have hsm := hb.small
  rw [hm] at hsm
  have HB := Lib.hid hb
  have HM := Lib.hid hm
  have hnot : ∀ r : B32, 4294967295 - rv r = rv (~~~ r) := fun r => by
    unfold rv
    rw [BitVec.toNat_not]
    have := r.isLt
    omega
  have HN := Lib.hid hnot
  have hs := rv_lt s
  clear hb hm hnot
  go_enter Try.func73, Try.ntmps73
  go_wp2
  rw [HN.out s]
  go_loop [5, 6, 7, 8, 9] (fun v i x i2 o => ∃ j : Nat, j ≤ m ∧ v = .int .u32 (rv (regs (~~~ s) (bs.take j))) ∧ i = .int .i64 j) (fun _ i _ _ _ => m - (intOf i).toNat)
  case atStart => exact ⟨0, Nat.zero_le _, rfl, rfl⟩
  case round =>
    obtain ⟨j, hj, rfl, rfl⟩ := hrel
    by_cases hlt : j < m
    · obtain ⟨x, hx⟩ : ∃ x, bs[j]? = some x := ⟨_, List.getElem?_eq_getElem (by rw [HM.out]; exact hlt)⟩
      obtain ⟨ad, rfl, _, ha⟩ := at_scalar HB.out hx
      have ha' : w.cell? (ad.add j) = some (.int .u8 x.toNat) := ha
      have b1 : (0 : Int) ≤ (j : Int) := by omega
      have b2 : (j : Int) < (m : Int) := by omega
      obtain ⟨hjl, hxe⟩ := List.getElem?_eq_some_iff.1 hx
      have HX : Hid (regs (~~~ s) (bs.take (j + 1)) = feeds (regs (~~~ s) (bs.take j)) ((bitsB x).take 8)) := by
        show _ = _
        rw [List.take_succ_eq_append_getElem hjl, hxe, regs_append]
        show feeds _ (bitsB x ++ []) = _
        rw [List.append_nil]; rfl
      obtain ⟨r, hr⟩ : ∃ r, regs (~~~ s) (bs.take j) = r := ⟨_, rfl⟩
      rw [hr] at HX ⊢
      have hX0 : Hid ((x.toNat : Int) = ((xAt x 0 : Nat) : Int)) := by show _ = _; unfold xAt; have := x.toNat_lt; omega
      clear hx ha hr hxe hjl
      go_wp2
      rw [hX0.out]
      clear hX0
      go_loop [5, 7, 8, 9] (fun v y i2 o => ∃ i : Nat, i ≤ 8 ∧ v = .int .u32 (rv (feeds r ((bitsB x).take i))) ∧ y = .int .u8 ((xAt x i : Nat) : Int) ∧ i2 = .int .i64 i) (fun _ _ i _ => 8 - (intOf i).toNat)
      case atStart => exact ⟨0, by decide, rfl, rfl, rfl⟩
      case round =>
        obtain ⟨i, hi, rfl, rfl, rfl⟩ := hrel
        by_cases h8 : i < 8
        · have b3 : (i : Int) < 8 := by omega
          have hxl := xAt_lt x i
          have HNX := Lib.hid (xAt_next x i)
          have HF := Lib.hid (feeds_next r x h8)
          obtain ⟨q, hq⟩ : ∃ q, feeds r ((bitsB x).take i) = q := ⟨_, rfl⟩
          rw [hq] at HF ⊢
          obtain ⟨X, hXe⟩ : ∃ X, xAt x i = X := ⟨_, rfl⟩
          rw [hXe] at HF HNX hxl ⊢
          have hql := rv_lt q
          clear hq hXe
          by_cases he : rv q / 2147483648 = (X : Int) / 128
          · have HS := Lib.hid (feed_same hxl he)
            go_wp2
            go_round
            case rel => exact ⟨i + 1, by omega, by rw [HF.out, ← HS.out], by rw [← HNX.out]; go_num, by go_num⟩
            case measure => simp [intOf]; omega
          · have HS := Lib.hid (feed_other hxl he)
            go_wp2
            go_round
            case rel => exact ⟨i + 1, by omega, by rw [HF.out, ← HS.out], by rw [← HNX.out]; go_num, by go_num⟩
            case measure => simp [intOf]; omega
        · have b3 : ¬ (i : Int) < 8 := by omega
          obtain rfl : i = 8 := by omega
          go_wp2
          go_round
          case rel => exact ⟨j + 1, by omega, by rw [HX.out], by go_num⟩
          case measure => simp [intOf]; omega
    · have b1 : ¬ (j : Int) < (m : Int) := by omega
      have HE := Lib.hid (HN.out (regs (~~~ s) (bs.take j)))
      have hrl := rv_lt (regs (~~~ s) (bs.take j))
      have HF : Hid (crcFrom s bs = ~~~ (regs (~~~ s) (bs.take j))) := by show _ = _; rw [crcFrom, List.take_of_length_le (by rw [HM.out]; omega)]
      go_wp2
      go_ret
      exact ⟨ret_u32 (by rw [HF.out, ← HE.out]), rfl⟩
theorem rs_sum {w : World} {ok : Nat → Prop} {A : Option Addr} {m c : Nat} {bs : List UInt8} (hb : Kd.byte.C w ok A bs) (hm : bs.length = m) :
    Calls Try.prog 70 #[.slice A m c] w fun e w' => e = .returned (.int .u32 (rv (crc bs))) ∧ w = w' := by
  have HB := Lib.hid hb
  have HM := Lib.hid hm
  clear hb hm
  go_enter Try.func70, Try.ntmps70
  go_wp2_with fail
  refine (rs_from 0#32 HB.out HM.out).mono ?_
  rintro e w' ⟨rfl, rfl⟩
  go_wp2
  go_ret
  exact ⟨rfl, rfl⟩
theorem byte_ref (s : B32) : Value.int .u8 (rv s / 16777216) = encB ((be4 s)[0]?.getD 0) ∧ Value.int .u8 (rv s / 65536 % 256) = encB ((be4 s)[1]?.getD 0) ∧ Value.int .u8 (rv s / 256 % 256) = encB ((be4 s)[2]?.getD 0) ∧ Value.int .u8 (rv s % 256) = encB ((be4 s)[3]?.getD 0) := by
  have h : ∀ k, k < 4 → Value.int .u8 (IntKind.u8.wrap (rv s / 2 ^ (24 - 8 * k))) = encB ((be4 s)[k]?.getD 0) := fun k hk => by
    obtain ⟨x, hx, hv⟩ := byte_rv s k hk
    rw [hv, hx]; rfl
  have e : ∀ n : Int, IntKind.u8.wrap n = n % 256 := fun n => rfl
  refine ⟨?_, ?_, ?_, ?_⟩
  · have h0 := h 0 (by decide)
    have hl := rv_lt s
    rw [e] at h0
    rw [← h0]
    congr 1
    show _ = rv s / 16777216 % 256
    omega
  · have := h 1 (by decide); rw [e] at this; exact this
  · have := h 2 (by decide); rw [e] at this; exact this
  · have := h 3 (by decide); rw [e] at this; simpa using this
theorem rs_sealed {w : World} {ok : Nat → Prop} {A : Option Addr} {m c : Nat} {bs : List UInt8} (hb : Kd.byte.C w ok A bs) (hm : bs.length = m) (hl : m ≤ 1000000000) :
    Calls Try.prog 64 #[.slice A m c] w (Tells w (sealB bs) (m + 4)) := by
  have HB := Lib.hid hb
  have HM := Lib.hid hm
  clear hb hm
  go_enter Try.func64, Try.ntmps64
  go_wp2
  go_loopw [3, 4] (fun v i wr => ∃ (t : Nat) (A' : Option Addr) (c' : Nat), t ≤ m ∧ v = .slice A' t c' ∧ i = .int .i64 t ∧ Hid (Kd.byte.R 5 wr w.heap.size (fun b => w.heap.size ≤ b) (.slice A' t c') (bs.take t)) ∧ Hid (Chg nob w wr) ∧ w.heap.size ≤ wr.heap.size) (fun _ i _ => m - (intOf i).toNat)
  case atStart => exact ⟨0, none, 0, Nat.zero_le _, rfl, rfl, Kd.R_nil _ _ _ _ _, Chg.refl _ _, Nat.le_refl _⟩
  case round =>
    obtain ⟨t, A', c', ht, rfl, rfl, HR, HC, hsz⟩ := hrel
    by_cases hlt : t < m
    · obtain ⟨x, hx⟩ : ∃ x, bs[t]? = some x := ⟨_, List.getElem?_eq_getElem (by rw [HM.out]; exact hlt)⟩
      obtain ⟨ad, rfl, _, ha⟩ := at_scalar (Kd.C_new HB.out HC.out) hx
      have ha' : wr.cell? (ad.add t) = some (.int .u8 x.toNat) := ha
      have b1 : (0 : Int) ≤ (t : Int) := by omega
      have b2 : (t : Int) < (m : Int) := by omega
      have HLN : Hid ((bs.take t).length + 1 = t + 1) := by show _ = _; rw [List.length_take, HM.out]; omega
      have HNX : Hid (bs.take t ++ [x] = bs.take (t + 1)) := by
        obtain ⟨hj, he⟩ := List.getElem?_eq_some_iff.1 hx
        show _ = _
        rw [List.take_succ_eq_append_getElem hj, he]
      clear hx ha
      go_wp2_with (at_builtin; refine wp_app1B rfl _ _ rfl w.heap.size _ (.slice A' t c') (bs.take t) x _ rfl rfl rfl HR.out hsz (t + 1) HLN.out (by omega) ?_)
      intro A5 c5 w5 hR5 hC5 _
      rw [HNX.out] at hR5
      have HR5 := Lib.hid (byte_ge hR5)
      have HC5 : Hid (Chg nob w w5) := HC.out.trans hC5 (fun i hi => .inr (Kd.R_own HR.out i hi.symm).1)
      have hs5 := HC5.out.size
      clear hR5 hC5 HR HC
      go_wp2
      exact ⟨⟨t + 1, A5, c5, by omega, rfl, by go_num, HR5, HC5, hs5⟩, by simp [intOf]; omega⟩
    · have b1 : ¬ (t : Int) < (m : Int) := by omega
      obtain rfl : t = m := by omega
      have hB2 := Kd.C_new HB.out HC.out
      rw [List.take_of_length_le (by rw [HM.out]; exact Nat.le_refl _)] at HR
      go_wp2_with fail
      refine (rs_sum hB2 HM.out).mono ?_
      rintro e w' ⟨rfl, rfl⟩
      obtain ⟨e0, e1, e2, e3⟩ := byte_ref (crc bs)
      have HE := Lib.hid (And.intro e0 (And.intro e1 (And.intro e2 e3)))
      have hrl := rv_lt (crc bs)
      obtain ⟨s, hs⟩ : ∃ s, crc bs = s := ⟨_, rfl⟩
      rw [hs] at HE hrl ⊢
      have HS := Lib.hid hs
      clear e0 e1 e2 e3 hB2 hs
      have hc4 : Chg nob wr (wr.alloc (.cells #[.int .u8 (rv s / 16777216), .int .u8 (rv s / 65536 % 256), .int .u8 (rv s / 256 % 256), .int .u8 (rv s % 256)] 5)) := (Chg.refl _ _).alloc _
      have HC4 : Hid (Kd.byte.C (wr.alloc (.cells #[.int .u8 (rv s / 16777216), .int .u8 (rv s / 65536 % 256), .int .u8 (rv s / 256 % 256), .int .u8 (rv s % 256)] 5)) (fun b => b = wr.heap.size) (some ⟨wr.heap.size, 0, none⟩) (be4 s)) :=
        C_block (heap_alloc_new wr _) (by obtain ⟨e0, e1, e2, e3⟩ := HE.out; show [_, _, _, _] = _; rw [e0, e1, e2, e3]; rfl) (by rw [be4_len]; decide)
      have HR4 := Lib.hid (Kd.R_new HR.out hc4)
      have hs4 : w.heap.size ≤ (wr.alloc (.cells #[.int .u8 (rv s / 16777216), .int .u8 (rv s / 65536 % 256), .int .u8 (rv s / 256 % 256), .int .u8 (rv s % 256)] 5)).heap.size := Nat.le_trans hsz hc4.size
      have HCC := Lib.hid (HC.out.thenNew hc4)
      have HLE : Hid (bs.length + 4 = t + 4) := by show _ = _; rw [HM.out]
      clear hc4 HR HC
      go_wp2_with (at_builtin; refine wp_appB rfl _ _ rfl w.heap.size _ _ (.slice A' t c') bs (be4 s) (some ⟨wr.heap.size, 0, none⟩) 4 4 rfl rfl (be4_len _) HR4.out HC4.out hs4 (t + 4) HLE.out (by omega) ?_)
      intro A5 c5 w5 hR5 hC5 _
      have HN5 := Lib.hid (HCC.out.trans hC5 (fun i hi => .inr (Kd.R_own HR4.out i hi.symm).1))
      have HEND : Hid (Tells w (sealB bs) (t + 4) (.returned (.slice A5 (t + 4) c5)) w5) := by
        obtain ⟨k1, _, k3⟩ := Kd.R_read (byte_ge hR5)
        refine ⟨A5, c5, rfl, ?_, k3, ?_, HN5.out⟩
        · rw [sealB, List.length_append, HM.out, be4_len]
        · rw [sealB, HS.out]; exact k1
      clear hR5 hC5
      go_wp2
      go_ret
      exact HEND.out
end Go.Proofs.Ytmahjeafoogamaa
