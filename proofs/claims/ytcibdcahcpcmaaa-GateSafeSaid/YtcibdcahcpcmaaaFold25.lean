import Derived.Test.YtcibdcahcpcmaaaFold24
import Derived.Lib.AppendStr
import Derived.Test.YtcibdcahcpcmaaaFold16
import Derived.Deep.RegionHeld3
import Derived.Deep.DrawnRows
/- What field.Text and field.Flag lay. -/
namespace Go.Proofs.Ytcibdcahcpcmaaa
open Go.RowKit
set_option maxRecDepth 100000
set_option linter.unusedVariables false
/-- A text's bytes. -/
def strB (s : ByteArray) : List UInt8 := s.data.toList
theorem strB_len (s : ByteArray) : (strB s).length = s.size := by simp [strB]
theorem strCells_eq (s : ByteArray) : Lib.strCells s = (strB s).map encB := rfl
section
variable {ops : Array Oper} {rest : List Oper} {o : Oper} {a : Act} {Q : Exit → Act → World → Prop} {w : World}
/-- append(v, text...) -/
theorem wp_appS (hgd : o.guard = none) (s x : Operand) (ho : o.op = .call { callee := .builtin .append, args := #[s, x], argTypes := #[26, 9] })
    (base : Nat) (ok : Nat → Prop) (v : Value) (xs : List UInt8) (t : ByteArray) (hs : a.eval s = v) (hx : a.eval x = .string t)
    (hr : Kd.byte.R 5 w base ok v xs) (hbase : base ≤ w.heap.size) (len : Nat) (hlen : xs.length + t.size = len) (hl : len ≤ 100000000000)
    (h : ∀ A' c' w', Kd.byte.R 5 w' base (fun k => some k = (Value.slice A' len c').ownBlock) (.slice A' len c') (xs ++ strB t) → Chg (fun k => some k = v.ownBlock) w w' → wpList Try.prog ops Q rest (a.put o.dst (.slice A' len c')) w') :
    wpList Try.prog ops Q (o :: rest) a w := by
  obtain ⟨i, hi, hzz⟩ := Option.map_eq_some_iff.1 u8_info
  simp only [Prod.mk.injEq] at hzz
  obtain ⟨hz0, hz1, hz2⟩ := hzz
  refine Lib.wpList_append_own_string (P := Try.prog) w hgd s x 26 9 ho base 5 i Try.underlying26 Try.underlying9 hi hz0 hz1 hz2 v xs.length (xs.map encB) hs (Kd.own_of_R hr) t hx (by unfold maxLen; omega) (by omega) hbase ?_
  intro v' w' hown hg _
  rw [strCells_eq, ← List.map_append] at hown
  have hR : Kd.byte.R 5 w' base (fun k => some k = v'.ownBlock) v' (xs ++ strB t) := Kd.R_of_own hown
  obtain ⟨A', c', hv, _⟩ := Kd.R_slice' hR (m := len) (by rw [List.length_append, strB_len]; exact hlen)
  subst hv
  exact h A' c' w' hR ⟨hg.os, hg.tape, hg.output, hg.size, fun k hk hne => hg.block k hk hne⟩
end
theorem Laid.slice {w w' : World} {l : List UInt8} {e : Ending} (h : Laid w l e w') : ∃ A c, e = .returned (.slice A l.length c) ∧ l.length ≤ c ∧ Kd.byte.R 5 w' w.heap.size (fun b => w.heap.size ≤ b) (.slice A l.length c) l ∧ Chg nob w w' := by
  obtain ⟨v, he, hR, hc⟩ := h
  obtain ⟨A, c, rfl, hl⟩ := Kd.R_slice hR
  exact ⟨A, c, he, hl, hR, hc⟩
set_option maxHeartbeats 1000000 in
theorem field_text {w : World} {ok : Nat → Prop} {A : Option Addr} {m c : Nat} {bs : List UInt8} (hb : Kd.byte.C w ok A bs) (hm : bs.length = m) (hm2 : m ≤ 1000000000) (s : ByteArray) (hs : s.size ≤ 1000000000) :
    Calls Try.prog 43 #[.slice A m c, .string s] w (Laid w (bs ++ (numB s.size ++ strB s))) := by
  have HM := Lib.hid hm
  clear hm
  have hnl := numB_len (n := s.size) (by omega)
  go_enter Try.func43, Try.ntmps43
  go_wp2_with fail
  refine (field_num hb HM.out hm2 _ (by omega) (by omega)).mono ?_
  intro e w1 hL
  obtain ⟨A1, c1, rfl, hl1, hR, hC⟩ := hL.slice
  rw [show ((s.size : Nat) : Int).toNat = s.size from Int.toNat_natCast _] at hR ⊢
  have hln : (bs ++ numB s.size).length = m + (numB s.size).length := by rw [List.length_append, HM.out]
  generalize hq : (bs ++ numB s.size).length = q at hR ⊢
  have hq2 : q = m + (numB s.size).length := by rw [← hq]; exact hln
  have HQ := Lib.hid hq
  have hq3 : q ≤ 2000000000 := by omega
  clear hq hln hl1 hL hb hq2
  have s1 := hC.size
  go_wp2_with (at_builtin; refine wp_appS rfl _ _ rfl w.heap.size (fun b => w.heap.size ≤ b) (.slice A1 q c1) (bs ++ numB s.size) s rfl rfl hR s1 (q + s.size) ?_ ?_ ?_)
  · rw [HQ.out]
  · omega
  intro A2 c2 w2 hR2 hC2
  have HE : Hid (Laid w (bs ++ (numB s.size ++ strB s)) (.returned (.slice A2 (q + s.size) c2)) w2) := by
    refine ⟨_, rfl, ?_, hC.trans hC2 (fun b hb => .inr (Kd.R_own hR b hb.symm).1)⟩
    exact Kd.R_ge Kd.scalar_flat hR2
  clear hR2 hC2 hR
  go_wp2
  go_ret
  exact HE.out
def txtB (s : ByteArray) : List UInt8 := numB s.size ++ strB s
end Go.Proofs.Ytcibdcahcpcmaaa

/- What the reference's Num, Text and Flag lay. -/
namespace Go.Proofs.Ytcibdcahcpcmaaa
open Go.RowKit
set_option maxRecDepth 100000
set_option linter.unusedVariables false
theorem Laid.of {w w' : World} {l : List UInt8} {base : Nat} {ok : Nat → Prop} {v : Value} (h : Kd.byte.R 5 w' base ok v l) (hb : w.heap.size ≤ base) (hc : Chg nob w w') : Laid w l (.returned v) w' :=
  ⟨v, rfl, Kd.R_mono (Kd.R_ge Kd.scalar_flat (Kd.R_lower h hb)) (fun _ hk => hk), hc⟩
theorem R_lit (w : World) (base : Nat) (bs : List UInt8) (cs : Array Value) (n : Nat) (h : cs.toList = bs.map encB) (hn : bs.length = n) (hb : base ≤ w.heap.size) (hl : n ≤ maxLen) :
    Kd.byte.R 5 (w.alloc (.cells cs 5)) base (fun b => some b = (Value.slice (some ⟨w.heap.size, 0, none⟩) n n).ownBlock) (.slice (some ⟨w.heap.size, 0, none⟩) n n) bs := by
  have hs : cs.size = n := by rw [← Array.length_toList, h, List.length_map, hn]
  have := World.ownsRow_lit (base := base) (e := 5) (size := 1) w cs n hb hl (by omega)
  rw [h] at this
  exact Kd.R_of_own this

theorem Laid.lit {w w' : World} {l : List UInt8} {v : Value} (h : Kd.byte.R 5 w' w.heap.size (fun b => some b = v.ownBlock) v l) (hc : Chg nob w w') : Laid w l (.returned v) w' := Laid.of h (Nat.le_refl _) hc
theorem numB_one : numB 1 = [1, 1] := by simp [numB, leB]
theorem numB_zero : numB 0 = [0] := by simp [numB, leB]
end Go.Proofs.Ytcibdcahcpcmaaa

/- Tokens: what a call of Issue does. -/
namespace Go.Proofs.Ytcibdcahcpcmaaa
open Go.RowKit
set_option maxRecDepth 100000
set_option linter.unusedVariables false
set_option linter.unusedSimpArgs false
def tokB (s : ByteArray) (nd inc idx : Nat) : List UInt8 := txtB s ++ numB nd ++ numB inc ++ numB idx
/-- The key in block n, the token in block n + 1. -/
structure IssSt (w0 : World) (n k0 k1 : Nat) (s : ByteArray) (nd inc idx : Nat) (w : World) : Prop where
  c : (w.cell? ⟨n, 0, none⟩ = some (.int .u64 k0) ∧ w.cell? ⟨n, 1, none⟩ = some (.int .u64 k1)) ∧ (w.cell? ⟨n + 1, 0, none⟩ = some (.string s) ∧ w.cell? ⟨n + 1, 1, none⟩ = some (.int .i64 nd) ∧ w.cell? ⟨n + 1, 2, none⟩ = some (.int .u32 inc) ∧ w.cell? ⟨n + 1, 3, none⟩ = some (.int .u64 idx))
  chg : Chg nob w0 w
/-- A slice that the call has made so far. -/
def Got (w0 w : World) (A : Option Addr) (m c : Nat) (l : List UInt8) : Prop := Hid (l.length = m) ∧ m ≤ c ∧ Kd.byte.C w (fun b => w0.heap.size ≤ b) A l
section
variable {w0 w w' : World} {n k0 k1 : Nat} {s : ByteArray} {nd inc idx : Nat}
theorem IssSt.new (h : IssSt w0 n k0 k1 s nd inc idx w) (hc : Chg nob w w') : IssSt w0 n k0 k1 s nd inc idx w' := by
  obtain ⟨⟨⟨a0, a1⟩, b0, b1, b2, b3⟩, h2⟩ := h
  exact ⟨⟨⟨hc.cell a0 (not_nob _), hc.cell a1 (not_nob _)⟩, hc.cell b0 (not_nob _), hc.cell b1 (not_nob _), hc.cell b2 (not_nob _), hc.cell b3 (not_nob _)⟩, h2.thenNew hc⟩
theorem Laid.got {l : List UInt8} {e : Ending} (h : Laid w l e w') (hb : w0.heap.size ≤ w.heap.size) {m : Nat} (hm : Hid (l.length = m)) : ∃ A c, e = .returned (.slice A m c) ∧ Got w0 w' A m c l ∧ Chg nob w w' := by
  obtain ⟨A, c, he, h1, hR, hC⟩ := h.slice
  have h3 := hm.out
  subst h3
  obtain ⟨k1, _, k3⟩ := Kd.R_read hR
  exact ⟨A, c, he, ⟨hm, k3, Kd.C_mono k1 (fun b hb' => Nat.le_trans hb hb')⟩, hC⟩
theorem iss_text (h : IssSt w0 n k0 k1 s nd inc idx w) (hs : s.size ≤ 24) {m : Nat} (hm : Hid ((txtB s).length = m)) :
    Calls Try.prog 43 #[.slice none 0 0, .string s] w fun e w' => ∃ A c, e = .returned (.slice A m c) ∧ IssSt w0 n k0 k1 s nd inc idx w' ∧ Got w0 w' A m c (txtB s) := by
  refine (field_text (Kd.C_nil _ _ (fun _ => False) none) rfl (Nat.zero_le _) s (by omega)).mono ?_
  intro e w' hL
  rw [show ([] : List UInt8) ++ (numB s.size ++ strB s) = txtB s from rfl] at hL
  obtain ⟨A, c, he, hG, hC⟩ := Laid.got (w0 := w0) hL h.chg.size hm
  exact ⟨A, c, he, h.new hC, hG⟩
theorem iss_num (h : IssSt w0 n k0 k1 s nd inc idx w) {A : Option Addr} {m m2 c v : Nat} {l : List UInt8} (hG : Got w0 w A m c l) (hm2 : m ≤ 1000000) (hv : v < 18446744073709551616) (hm : Hid ((l ++ numB v).length = m2)) :
    Calls Try.prog 42 #[.slice A m c, .int .u64 v] w fun e w' => ∃ A c, e = .returned (.slice A m2 c) ∧ IssSt w0 n k0 k1 s nd inc idx w' ∧ Got w0 w' A m2 c (l ++ numB v) := by
  refine (field_num hG.2.2 hG.1.out (by omega) v (by omega) (by omega)).mono ?_
  intro e w' hL
  rw [Int.toNat_natCast] at hL
  obtain ⟨A, c, he, hG', hC⟩ := Laid.got (w0 := w0) hL h.chg.size hm
  exact ⟨A, c, he, h.new hC, hG'⟩
theorem iss_put (h : IssSt w0 n k0 k1 s nd inc idx w) (h0 : k0 < 18446744073709551616) (h1 : k1 < 18446744073709551616) {A : Option Addr} {m c : Nat} {l : List UInt8} (hG : Got w0 w A m c l) (hm2 : m ≤ 1000000) :
    Calls Try.prog 44 #[.agg #[.int .u64 k0, .int .u64 k1], .slice A m c] w fun e w' => ∃ A c, e = .returned (.slice A (m + 8) c) ∧ IssSt w0 n k0 k1 s nd inc idx w' ∧ Got w0 w' A (m + 8) c (sealed k0 k1 l) := by
  refine (s_put h0 h1 (Kd.C_bound hG.2.2) (fun b hb => hb.2) hG.1.out hG.2.1 (by omega)).mono ?_
  rintro e w' ⟨A, c, he, hl, hmc, hC, hc⟩
  exact ⟨A, c, he, h.new hc, hl, hmc, Kd.C_mono hC (fun b hb => Nat.le_trans h.chg.size hb)⟩
end
theorem iss_start {w : World} (t1 t2 k0 k1 : Nat) (s : ByteArray) (nd inc idx : Nat) : IssSt w w.heap.size k0 k1 s nd inc idx ((w.alloc (.cells #[.int .u64 k0, .int .u64 k1] t1)).alloc (.cells #[.string s, .int .i64 nd, .int .u32 inc, .int .u64 idx] t2)) := by
  have h5 := heap_alloc_new w (.cells #[.int .u64 k0, .int .u64 k1] t1)
  have h6 := ((Chg.refl nob (w.alloc (.cells #[.int .u64 k0, .int .u64 k1] t1))).alloc (.cells #[.string s, .int .i64 nd, .int .u32 inc, .int .u64 idx] t2)).heap h5 (not_nob _)
  have h7 := heap_alloc_new (w.alloc (.cells #[.int .u64 k0, .int .u64 k1] t1)) (.cells #[.string s, .int .i64 nd, .int .u32 inc, .int .u64 idx] t2)
  rw [show (w.alloc (.cells #[.int .u64 k0, .int .u64 k1] t1)).heap.size = w.heap.size + 1 from by simp] at h7
  exact ⟨⟨⟨by rw [cell_of_row _ _ 0 _ _ _ h6]; rfl, by rw [cell_of_row _ _ 1 _ _ _ h6]; rfl⟩, t_cells h7⟩, ((Chg.refl _ _).alloc _).alloc _⟩
theorem tok_len {s : ByteArray} {nd inc idx : Nat} (hs : s.size ≤ 24) (h1 : nd < 18446744073709551616) (h2 : inc < 18446744073709551616) (h3 : idx < 18446744073709551616) : (txtB s).length ≤ 33 ∧ (txtB s ++ numB nd).length ≤ 42 ∧ (txtB s ++ numB nd ++ numB inc).length ≤ 51 ∧ (tokB s nd inc idx).length ≤ 60 := by
  have q0 := numB_len (n := s.size) (by omega)
  have q1 := numB_len h1
  have q2 := numB_len h2
  have q3 := numB_len h3
  simp only [tokB, txtB, List.length_append, strB_len]
  omega
set_option maxRecDepth 100000 in
set_option maxHeartbeats 4000000 in
theorem t_issue {w : World} {k0 k1 : Nat} (h0 : k0 < 18446744073709551616) (h1 : k1 < 18446744073709551616) (s : ByteArray) (nd inc idx : Nat) (hok : tokOk s nd = true) (h3 : inc < 4294967296) (h4 : idx < 18446744073709551616) {m : Nat} (hm : (tokB s nd inc idx).length = m) :
    Calls Try.prog 23 #[.agg #[.int .u64 k0, .int .u64 k1], .agg #[.string s, .int .i64 nd, .int .u32 inc, .int .u64 idx]] w fun e w' => ∃ A c, e = .returned (.tuple #[.slice A (m + 8) c, .int .i64 0]) ∧ Got w w' A (m + 8) c (sealed k0 k1 (tokB s nd inc idx)) ∧ Chg nob w w' := by
  have hok' := hok
  unfold tokOk nameB at hok'
  rw [Bool.and_eq_true, Bool.and_eq_true, decide_eq_true_iff, decide_eq_true_iff, strL_len] at hok'
  have hs : s.size ≤ 24 := hok'.1.1.2.1
  have hnd : nd ≤ 7 := by have := hok'.2; omega
  have HOK := Lib.hid hok
  obtain ⟨l1, l2, l3, l4⟩ := tok_len (s := s) (nd := nd) (inc := inc) (idx := idx) hs (by omega) (by omega) h4
  obtain ⟨p1, hp1⟩ : ∃ q, (txtB s).length = q := ⟨_, rfl⟩
  obtain ⟨p2, hp2⟩ : ∃ q, (txtB s ++ numB nd).length = q := ⟨_, rfl⟩
  obtain ⟨p3, hp3⟩ : ∃ q, (txtB s ++ numB nd ++ numB inc).length = q := ⟨_, rfl⟩
  rw [hp1] at l1
  rw [hp2] at l2
  rw [hp3] at l3
  rw [hm] at l4
  have HP1 := Lib.hid hp1
  have HP2 := Lib.hid hp2
  have HP3 := Lib.hid hp3
  have HM : Hid ((txtB s ++ numB nd ++ numB inc ++ numB idx).length = m) := hm
  have g1 : p1 ≤ 1000000 := by omega
  have g2 : p2 ≤ 1000000 := by omega
  have g3 : p3 ≤ 1000000 := by omega
  have g4 : m ≤ 1000000 := by omega
  have n1 : nd < 18446744073709551616 := by omega
  have n2 : inc < 18446744073709551616 := by omega
  have hst := iss_start (w := w) 70 45 k0 k1 s nd inc idx
  obtain ⟨⟨d0, d1⟩, d2, d3, d4, d5⟩ := hst.c
  clear hok hok' hp1 hp2 hp3 hm l1 l2 l3 l4
  go_enter Try.func23, Try.ntmps23
  go_wp2_with fail
  refine (t_right s (by omega) nd inc idx).mono ?_
  rintro e w2 ⟨rfl, hc2⟩
  rw [HOK.out]
  have hst2 := hst.new hc2
  have hst3 := hst2.new ((Chg.refl _ _).drew)
  clear hst hc2 d0 d1 d2 d3 d4 d5
  have wn : IntKind.u64.wrap (nd : Int) = (nd : Int) := by rw [wrap_u64, Nat.mod_eq_of_lt n1]
  have wi : IntKind.u64.wrap (inc : Int) = (inc : Int) := by rw [wrap_u64, Nat.mod_eq_of_lt n2]
  go_wp2
  go_region_held3 (fun w' => (w'.cell? ⟨w.heap.size, 0, none⟩ = some (.int .u64 k0) ∧ w'.cell? ⟨w.heap.size, 1, none⟩ = some (.int .u64 k1)) ∧ (w'.cell? ⟨w.heap.size + 1, 0, none⟩ = some (.string s) ∧ w'.cell? ⟨w.heap.size + 1, 1, none⟩ = some (.int .i64 nd) ∧ w'.cell? ⟨w.heap.size + 1, 2, none⟩ = some (.int .u32 inc) ∧ w'.cell? ⟨w.heap.size + 1, 3, none⟩ = some (.int .u64 idx))) (exact IssSt.c (by assumption))
    (first | (go_at_call 43; with_reducible refine (iss_text (by assumption) hs HP1).mono ?_; rintro e w' ⟨A1, c1, rfl, hq, hG⟩) | (go_at_call 42; with_reducible refine (iss_num (by assumption) (by assumption) g1 n1 HP2).mono ?_; rintro e w' ⟨A2, c2, rfl, hq2, hG2⟩))
  have hst4 := hq2.new ((Chg.refl _ _).drew)
  have hG4 : Got w _ A2 p2 c2 (txtB s ++ numB nd) := ⟨hG2.1, hG2.2.1, Kd.C_new hG2.2.2 ((Chg.refl _ _).drew)⟩
  clear hq hG hst2 hst3 hq2 hG2
  go_wp2
  go_region_held3 (fun w' => (w'.cell? ⟨w.heap.size, 0, none⟩ = some (.int .u64 k0) ∧ w'.cell? ⟨w.heap.size, 1, none⟩ = some (.int .u64 k1)) ∧ (w'.cell? ⟨w.heap.size + 1, 0, none⟩ = some (.string s) ∧ w'.cell? ⟨w.heap.size + 1, 1, none⟩ = some (.int .i64 nd) ∧ w'.cell? ⟨w.heap.size + 1, 2, none⟩ = some (.int .u32 inc) ∧ w'.cell? ⟨w.heap.size + 1, 3, none⟩ = some (.int .u64 idx))) (exact IssSt.c (by assumption))
    (first | (go_at_call 42; (first | (with_reducible refine (iss_num (by assumption) hG4 g2 n2 HP3).mono ?_; rintro e w' ⟨A3, c3, rfl, hq3, hG3⟩) | (with_reducible refine (iss_num (by assumption) hG3 g3 h4 HM).mono ?_; rintro e w' ⟨A5, c5, rfl, hq5, hG5⟩))) | (go_at_call 44; with_reducible refine (iss_put (by assumption) h0 h1 hG5 g4).mono ?_; rintro e w' ⟨A6, c6, rfl, hq6, hG6⟩))
  go_wp2
  all_goals
    go_ret2
    exact ⟨A6, c6, rfl, hG6, hq6.chg⟩
end Go.Proofs.Ytcibdcahcpcmaaa
