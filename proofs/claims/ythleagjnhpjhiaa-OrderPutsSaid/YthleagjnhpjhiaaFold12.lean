import Derived.Test.YthleagjnhpjhiaaFold11
import Derived.Lib.AppendStr
/- What field.Text and field.Flag lay. -/
namespace Go.Proofs.Ythleagjnhpjhiaa
open Go.RowKit
set_option maxRecDepth 100000
set_option linter.unusedVariables false
/-- A text's bytes. -/
def strB (s : ByteArray) : List UInt8 := s.data.toList
theorem strB_len (s : ByteArray) : (strB s).length = s.size := by simp [strB]
theorem strCells_eq (s : ByteArray) : Lib.strCells s = (strB s).map encB := rfl
section
variable {ops : Array Oper} {rest : List Oper} {o : Oper} {a : Act} {Q : Exit → Act → World → Prop} {w : World}
/-- append(v, text...) -/
theorem wp_appS (hgd : o.guard = none) (s x : Operand) (ho : o.op = .call { callee := .builtin .append, args := #[s, x], argTypes := #[32, 9] })
    (base : Nat) (ok : Nat → Prop) (v : Value) (xs : List UInt8) (t : ByteArray) (hs : a.eval s = v) (hx : a.eval x = .string t)
    (hr : Kd.byte.R 5 w base ok v xs) (hbase : base ≤ w.heap.size) (len : Nat) (hlen : xs.length + t.size = len) (hl : len ≤ 100000000000)
    (h : ∀ A' c' w', Kd.byte.R 5 w' base (fun k => some k = (Value.slice A' len c').ownBlock) (.slice A' len c') (xs ++ strB t) → Chg (fun k => some k = v.ownBlock) w w' → wpList Try.prog ops Q rest (a.put o.dst (.slice A' len c')) w') :
    wpList Try.prog ops Q (o :: rest) a w := by
  obtain ⟨i, hi, hzz⟩ := Option.map_eq_some_iff.1 u8_info
  simp only [Prod.mk.injEq] at hzz
  obtain ⟨hz0, hz1, hz2⟩ := hzz
  refine Lib.wpList_append_own_string (P := Try.prog) w hgd s x 32 9 ho base 5 i Try.underlying32 Try.underlying9 hi hz0 hz1 hz2 v xs.length (xs.map encB) hs (Kd.own_of_R hr) t hx (by unfold maxLen; omega) (by omega) hbase ?_
  intro v' w' hown hg _
  rw [strCells_eq, ← List.map_append] at hown
  have hR : Kd.byte.R 5 w' base (fun k => some k = v'.ownBlock) v' (xs ++ strB t) := Kd.R_of_own hown
  obtain ⟨A', c', hv, _⟩ := Kd.R_slice' hR (m := len) (by rw [List.length_append, strB_len]; exact hlen)
  subst hv
  exact h A' c' w' hR ⟨hg.os, hg.tape, hg.output, hg.size, fun k hk hne => hg.block k hk hne⟩
end
theorem Laid.slice {w w' : World} {l : List UInt8} {e : Ending} (h : Laid w l e w') : ∃ A c, e = .returned (.slice A l.length c) ∧ l.length ≤ c ∧ Kd.byte.R 5 w' w.heap.size (fun b => w.heap.size ≤ b) (.slice A l.length c) l ∧ Chg nob w w' := by
  obtain ⟨v, he, hR, hc⟩ := h
  obtain ⟨A, c, rfl, hl⟩ := Kd.R_slice hR
  exact ⟨A, c, he, hl, hR, hc⟩
set_option maxHeartbeats 1000000 in
theorem field_text {w : World} {ok : Nat → Prop} {A : Option Addr} {m c : Nat} {bs : List UInt8} (hb : Kd.byte.C w ok A bs) (hm : bs.length = m) (hm2 : m ≤ 1000000000) (s : ByteArray) (hs : s.size ≤ 1000000000) :
    Calls Try.prog 57 #[.slice A m c, .string s] w (Laid w (bs ++ (numB s.size ++ strB s))) := by
  have HM := Lib.hid hm
  clear hm
  have hnl := numB_len (n := s.size) (by omega)
  go_enter Try.func57, Try.ntmps57
  go_wp2_with fail
  refine (field_num hb HM.out hm2 _ (by omega) (by omega)).mono ?_
  intro e w1 hL
  obtain ⟨A1, c1, rfl, hl1, hR, hC⟩ := hL.slice
  rw [show ((s.size : Nat) : Int).toNat = s.size from Int.toNat_natCast _] at hR ⊢
  have hln : (bs ++ numB s.size).length = m + (numB s.size).length := by rw [List.length_append, HM.out]
  generalize hq : (bs ++ numB s.size).length = q at hR ⊢
  have hq2 : q = m + (numB s.size).length := by rw [← hq]; exact hln
  have HQ := Lib.hid hq
  have hq3 : q ≤ 2000000000 := by omega
  clear hq hln hl1 hL hb hq2
  have s1 := hC.size
  go_wp2_with (at_builtin; refine wp_appS rfl _ _ rfl w.heap.size (fun b => w.heap.size ≤ b) (.slice A1 q c1) (bs ++ numB s.size) s rfl rfl hR s1 (q + s.size) ?_ ?_ ?_)
  · rw [HQ.out]
  · omega
  intro A2 c2 w2 hR2 hC2
  have HE : Hid (Laid w (bs ++ (numB s.size ++ strB s)) (.returned (.slice A2 (q + s.size) c2)) w2) := by
    refine ⟨_, rfl, ?_, hC.trans hC2 (fun b hb => .inr (Kd.R_own hR b hb.symm).1)⟩
    exact Kd.R_ge Kd.scalar_flat hR2
  clear hR2 hC2 hR
  go_wp2
  go_ret
  exact HE.out
set_option maxHeartbeats 1000000 in
theorem field_flag {w : World} {ok : Nat → Prop} {A : Option Addr} {m c : Nat} {bs : List UInt8} (hb : Kd.byte.C w ok A bs) (hm : bs.length = m) (hm2 : m ≤ 1000000000) (is : Bool) :
    Calls Try.prog 69 #[.slice A m c, .bool is] w (Laid w (bs ++ numB (if is then 1 else 0))) := by
  cases is
  · go_enter Try.func69, Try.ntmps69
    go_wp2_with fail
    refine (field_num hb hm hm2 0 (by omega) (by omega)).mono ?_
    intro e w1 hL
    have HE := Lib.hid hL
    obtain ⟨v, rfl, _⟩ := hL
    go_wp2
    go_ret
    exact HE.out
  · go_enter Try.func69, Try.ntmps69
    go_wp2_with fail
    refine (field_num hb hm hm2 1 (by omega) (by omega)).mono ?_
    intro e w1 hL
    have HE := Lib.hid hL
    obtain ⟨v, rfl, _⟩ := hL
    go_wp2
    go_ret
    exact HE.out
def txtB (s : ByteArray) : List UInt8 := numB s.size ++ strB s
end Go.Proofs.Ythleagjnhpjhiaa

/- What the reference's Num, Text and Flag lay. -/
namespace Go.Proofs.Ythleagjnhpjhiaa
open Go.RowKit
set_option maxRecDepth 100000
set_option linter.unusedVariables false
theorem Laid.of {w w' : World} {l : List UInt8} {base : Nat} {ok : Nat → Prop} {v : Value} (h : Kd.byte.R 5 w' base ok v l) (hb : w.heap.size ≤ base) (hc : Chg nob w w') : Laid w l (.returned v) w' :=
  ⟨v, rfl, Kd.R_mono (Kd.R_ge Kd.scalar_flat (Kd.R_lower h hb)) (fun _ hk => hk), hc⟩
theorem R_lit (w : World) (base : Nat) (bs : List UInt8) (cs : Array Value) (n : Nat) (h : cs.toList = bs.map encB) (hn : bs.length = n) (hb : base ≤ w.heap.size) (hl : n ≤ maxLen) :
    Kd.byte.R 5 (w.alloc (.cells cs 5)) base (fun b => some b = (Value.slice (some ⟨w.heap.size, 0, none⟩) n n).ownBlock) (.slice (some ⟨w.heap.size, 0, none⟩) n n) bs := by
  have hs : cs.size = n := by rw [← Array.length_toList, h, List.length_map, hn]
  have := World.ownsRow_lit (base := base) (e := 5) (size := 1) w cs n hb hl (by omega)
  rw [h] at this
  exact Kd.R_of_own this
set_option maxHeartbeats 2000000 in
theorem ref_num {w : World} (n : Int) (h0 : 0 ≤ n) (h1 : n < 18446744073709551616) :
    Calls Try.prog 22 #[.int .u64 n] w (Laid w (numB n.toNat)) := by
  obtain ⟨n, rfl⟩ := Int.eq_ofNat_of_zero_le h0
  rw [Int.toNat_natCast]
  have hn : n < 18446744073709551616 := by omega
  have hl8 := leB_len8 hn
  clear h0 h1
  go_enter Try.func22, Try.ntmps22
  go_wp2
  go_loopw [0, 3] (fun i v wr => ∃ (x k : Nat) (lo : List UInt8) (A : Option Addr) (c : Nat), i = .int .u64 x ∧ v = .slice A k c ∧ x ≤ n ∧ k ≤ 8 ∧ Hid (lo.length = k ∧ leB n = lo ++ leB x) ∧ Kd.byte.R 5 wr w.heap.size (fun b => w.heap.size ≤ b) (.slice A k c) lo ∧ Chg nob w wr) (fun i _ _ => (intOf i).toNat)
  case atStart => exact ⟨n, 0, [], none, 0, rfl, rfl, Nat.le_refl _, by omega, ⟨rfl, rfl⟩, Kd.R_nil _ _ _ _ _, Chg.refl _ _⟩
  case round =>
    obtain ⟨x, k, lo, A, c, rfl, rfl, hxn, hk8, HL, hR, hC⟩ := hrel
    have s1 := hC.size
    by_cases hx : 0 < x
    · have hk : k < 8 := by
        have h2 := HL.out.2
        rw [leB_pos hx] at h2
        have h3 := congrArg List.length h2
        simp at h3
        have := HL.out.1
        omega
      have HN : Hid ((lo ++ [UInt8.ofNat (x % 256)]).length = k + 1 ∧ leB n = (lo ++ [UInt8.ofNat (x % 256)]) ++ leB (x / 256)) := by
        refine ⟨by simp [HL.out.1], ?_⟩
        rw [HL.out.2, leB_pos hx]
        simp
      go_wp2_with (at_builtin; refine wp_app1B rfl _ _ rfl w.heap.size (fun b => w.heap.size ≤ b) (.slice A k c) lo (UInt8.ofNat (x % 256)) _ ?_ rfl rfl hR s1 (k + 1) ?_ ?_ ?_)
      · exact byte_mod x
      · rw [HL.out.1]
      · omega
      intro A1 c1 w1 hR1 hC1 _
      have hc1 := hC.trans hC1 (fun b hb => .inr (Kd.R_own hR b hb.symm).1)
      have hR2 := byte_ge hR1
      clear hR1 hC1 hR hC HL
      go_wp2
      exact ⟨⟨x / 256, k + 1, _, A1, c1, by go_num, by go_num, by omega, by omega, HN, hR2, hc1⟩, by simp [intOf]; omega⟩
    · obtain rfl : x = 0 := by omega
      have hlo : leB n = lo := by have := HL.out.2; rwa [leB_zero, List.append_nil] at this
      have hkl := HL.out.1
      have hby : Value.int .u8 ((k : Int)) = encB (UInt8.ofNat (leB n).length) := by
        unfold encB; rw [UInt8.toNat_ofNat_of_lt' (show (leB n).length < 256 by omega), hlo, hkl]
      have HBY := Lib.hid hby
      have HLO := Lib.hid hlo
      have HKL := Lib.hid hkl
      clear hby hlo hkl HL
      rw [show (((0 : Nat) : Int)) = (0 : Int) from rfl]
      go_wp2
      have hR0 : Kd.byte.R 5 (wr.alloc (.cells #[.int .u8 (k : Int)] 5)) wr.heap.size (fun b => some b = (Value.slice (some ⟨wr.heap.size, 0, none⟩) 1 1).ownBlock) (.slice (some ⟨wr.heap.size, 0, none⟩) 1 1) [UInt8.ofNat (leB n).length] :=
        R_lit wr _ _ _ 1 (by rw [HBY.out]; rfl) rfl (Nat.le_refl _) (by simp [maxLen])
      have hC0 : Chg nob wr (wr.alloc (.cells #[.int .u8 (k : Int)] 5)) := (Chg.refl _ _).alloc _
      obtain ⟨wo, hwo⟩ : ∃ wo : World, wo = wr := ⟨_, rfl⟩
      subst hwo
      go_loopw [4, 5] (fun v i w2 => ∃ (j : Int) (q : Nat) (B : Option Addr) (d : Nat), v = .slice B q d ∧ i = .int .i64 j ∧ -1 ≤ j ∧ j < k ∧ Hid ((q : Int) = k - j) ∧ Kd.byte.R 5 w2 wo.heap.size (fun b => wo.heap.size ≤ b) (.slice B q d) (UInt8.ofNat (leB n).length :: (lo.reverse.take (q - 1))) ∧ Chg nob wo w2) (fun _ i _ => (intOf i + 1).toNat)
      case atStart => exact ⟨(k : Int) - 1, 1, _, _, rfl, rfl, by omega, by omega, (show ((1 : Nat) : Int) = k - ((k : Int) - 1) by omega), byte_ge hR0, hC0⟩
      case round =>
        obtain ⟨j, q, B, d, rfl, rfl, j1, j2, HQ, hR2, hC2⟩ := hrel
        have s2 := hC2.size
        by_cases hj : 0 ≤ j
        · obtain ⟨J, rfl⟩ := Int.eq_ofNat_of_zero_le hj
          have hqk : 1 ≤ q ∧ q ≤ k := by have := HQ.out; omega
          obtain ⟨hq1, hq2⟩ := hqk
          have hJ : J < lo.length := by rw [HKL.out]; omega
          have hCl := (Kd.R_read (Kd.R_new hR hC2)).1
          obtain ⟨ad, rfl, _, hx⟩ := at_scalar hCl (List.getElem?_eq_getElem hJ)
          have hx' : wr.cell? (ad.add J) = some (encB lo[J]) := hx
          obtain ⟨y, hy⟩ : ∃ y, lo[J] = y := ⟨_, rfl⟩
          have hrev : lo.reverse.take (q - 1) ++ [y] = lo.reverse.take q := by
            obtain ⟨q', rfl⟩ : ∃ q', q = q' + 1 := ⟨q - 1, by omega⟩
            rw [Nat.add_sub_cancel, List.take_add_one, List.getElem?_reverse (by rw [HKL.out]; omega), HKL.out, show k - 1 - q' = J from by have := HQ.out; omega, List.getElem?_eq_getElem hJ, hy]
            rfl
          have HREV := Lib.hid hrev
          rw [hy] at hx'
          have hxe : wr.cell? (ad.add J) = some (.int .u8 (y.toNat : Int)) := hx'
          have b1 : (J : Int) < (k : Int) := j2
          have hql : (UInt8.ofNat (leB n).length :: lo.reverse.take (q - 1)).length = q := by
            rw [List.length_cons, List.length_take, List.length_reverse, HKL.out]; omega
          have HQL := Lib.hid hql
          clear hrev hx hx' hCl hy hql
          go_wp2_with (at_builtin; refine wp_app1B rfl _ _ rfl wo.heap.size (fun b => wo.heap.size ≤ b) (.slice B q d) (UInt8.ofNat (leB n).length :: lo.reverse.take (q - 1)) y _ rfl rfl rfl hR2 s2 (q + 1) ?_ ?_ ?_)
          · rw [HQL.out]
          · omega
          intro B1 d1 w3 hR3 hC3 _
          have hc3 := hC2.trans hC3 (fun b hb => .inr (Kd.R_own hR2 b hb.symm).1)
          have hR4 : Kd.byte.R 5 w3 wo.heap.size (fun b => wo.heap.size ≤ b) (.slice B1 (q + 1) d1) (UInt8.ofNat (leB n).length :: (lo.reverse.take (q + 1 - 1))) := by
            have h5 := byte_ge hR3
            have h6 : UInt8.ofNat (leB n).length :: lo.reverse.take (q - 1) ++ [y] = UInt8.ofNat (leB n).length :: (lo.reverse.take (q + 1 - 1)) := by rw [List.cons_append, HREV.out, Nat.add_sub_cancel]
            rw [← h6]
            first | exact h5 | (simpa using h5)
          have HQ1 : Hid (((q + 1 : Nat) : Int) = k - ((J : Int) - 1)) := by have := HQ.out; show _ = _; omega
          clear hR3 hC3 hR2 hC2 HQ
          go_wp2
          go_roundw
          case rel => exact ⟨(J : Int) - 1, q + 1, B1, d1, by go_num, by (first | rfl | go_num), by omega, by omega, HQ1, hR4, hc3⟩
          case measure => simp [intOf]
        · have hq : q = k + 1 := by have := HQ.out; omega
          have HE : Hid (Laid w (numB n) (.returned (.slice B q d)) wr) := by
            refine Laid.of (base := wo.heap.size) (ok := fun b => wo.heap.size ≤ b) ?_ s1 (hC.thenNew hC2)
            have h5 : numB n = UInt8.ofNat (leB n).length :: lo.reverse.take (q - 1) := by
              unfold numB
              rw [HLO.out, hq, Nat.add_sub_cancel, List.take_of_length_le (by rw [List.length_reverse, HKL.out]; omega)]
            rw [h5]
            exact hR2
          clear hq hR2
          go_wp2
          go_ret
          exact HE.out

set_option maxHeartbeats 1000000 in
theorem ref_text {w : World} (s : ByteArray) (hs : s.size ≤ 1000000000) :
    Calls Try.prog 39 #[.string s] w (Laid w (numB s.size ++ strB s)) := by
  have hnl := numB_len (n := s.size) (by omega)
  go_enter Try.func39, Try.ntmps39
  go_wp2_with fail
  refine (ref_num _ (by omega) (by omega)).mono ?_
  intro e w1 hL
  obtain ⟨A1, c1, rfl, hl1, hR, hC⟩ := hL.slice
  rw [show ((s.size : Nat) : Int).toNat = s.size from Int.toNat_natCast _] at hR ⊢
  clear hl1 hL
  generalize hq : (numB s.size).length = q at *
  have HQ := Lib.hid hq
  clear hq
  go_wp2
  go_loopw [3, 4] (fun v i wr => ∃ (j : Nat) (B : Option Addr) (d : Nat), v = .slice B (q + j) d ∧ i = .int .i64 j ∧ j ≤ s.size ∧ Kd.byte.R 5 wr w.heap.size (fun b => w.heap.size ≤ b) (.slice B (q + j) d) (numB s.size ++ (strB s).take j) ∧ Chg nob w wr) (fun _ i _ => s.size - (intOf i).toNat)
  case atStart => exact ⟨0, A1, c1, rfl, rfl, Nat.zero_le _, by simpa using hR, hC⟩
  case round =>
    obtain ⟨j, B, d, rfl, rfl, hj, hR2, hC2⟩ := hrel
    have s2 := hC2.size
    clear hR hC
    by_cases hlt : j < s.size
    · have hjl : j < (strB s).length := by rw [strB_len]; exact hlt
      have htk : (strB s).take (j + 1) = (strB s).take j ++ [(strB s)[j]] := by rw [List.take_succ_eq_append_getElem hjl]
      have hce : Value.int .u8 (((s[j]'hlt).toNat : Nat) : Int) = encB ((strB s)[j]) := rfl
      have hln : (numB s.size ++ (strB s).take j).length = q + j := by rw [List.length_append, List.length_take, HQ.out]; omega
      have HTK := Lib.hid htk
      have HCE := Lib.hid hce
      have HLN := Lib.hid hln
      clear htk hce hln
      have b1 : (0 : Int) ≤ (j : Int) := by omega
      have b2 : (j : Int) < (s.size : Int) := by omega
      go_wp2_with (at_builtin; refine wp_app1B rfl _ _ rfl w.heap.size (fun b => w.heap.size ≤ b) (.slice B (q + j) d) (numB s.size ++ (strB s).take j) ((strB s)[j]) _ ?_ rfl rfl hR2 s2 (q + (j + 1)) ?_ ?_ ?_)
      · exact HCE.out
      · rw [HLN.out]; omega
      · omega
      intro B1 d1 w3 hR3 hC3 _
      have hc3 := hC2.trans hC3 (fun b hb => .inr (Kd.R_own hR2 b hb.symm).1)
      have hR4 : Kd.byte.R 5 w3 w.heap.size (fun b => w.heap.size ≤ b) (.slice B1 (q + (j + 1)) d1) (numB s.size ++ (strB s).take (j + 1)) := by
        have h5 := byte_ge hR3
        rw [HTK.out, ← List.append_assoc]
        first | exact h5 | (simpa using h5)
      clear hR3 hC3 hR2 hC2 HTK HCE
      go_wp2
      go_roundw
      case rel => exact ⟨j + 1, B1, d1, rfl, by go_num, by omega, hR4, hc3⟩
      case measure => simp [intOf]; omega
    · obtain rfl : j = s.size := by omega
      have hln : (numB s.size ++ strB s).length = q + s.size := by rw [List.length_append, HQ.out, strB_len]
      have HE : Hid (Laid w (numB s.size ++ strB s) (.returned (.slice B (q + s.size) d)) wr) := by
        rw [List.take_of_length_le (by rw [strB_len]; exact Nat.le_refl _)] at hR2
        exact Laid.of hR2 (Nat.le_refl _) hC2
      clear hln hR2
      go_wp2
      go_ret
      exact HE.out
theorem Laid.lit {w w' : World} {l : List UInt8} {v : Value} (h : Kd.byte.R 5 w' w.heap.size (fun b => some b = v.ownBlock) v l) (hc : Chg nob w w') : Laid w l (.returned v) w' := Laid.of h (Nat.le_refl _) hc
theorem numB_one : numB 1 = [1, 1] := by simp [numB, leB]
theorem numB_zero : numB 0 = [0] := by simp [numB, leB]
set_option maxHeartbeats 1000000 in
theorem ref_flag {w : World} (is : Bool) :
    Calls Try.prog 41 #[.bool is] w (Laid w (numB (if is then 1 else 0))) := by
  cases is
  · have HE : Hid (Laid w (numB 0) (.returned (.slice (some ⟨w.heap.size, 0, none⟩) 1 1)) (w.alloc (.cells #[.int .u8 0] 5))) := by
      rw [numB_zero]
      exact Laid.lit (R_lit w _ _ _ 1 rfl rfl (Nat.le_refl _) (by simp [maxLen])) ((Chg.refl _ _).alloc _)
    go_enter Try.func41, Try.ntmps41
    go_wp2
    go_ret
    exact HE.out
  · have HE : Hid (Laid w (numB 1) (.returned (.slice (some ⟨w.heap.size, 0, none⟩) 2 2)) (w.alloc (.cells #[.int .u8 1, .int .u8 1] 5))) := by
      rw [numB_one]
      exact Laid.lit (R_lit w _ _ _ 2 rfl rfl (Nat.le_refl _) (by simp [maxLen])) ((Chg.refl _ _).alloc _)
    go_enter Try.func41, Try.ntmps41
    go_wp2
    go_ret
    exact HE.out
end Go.Proofs.Ythleagjnhpjhiaa
