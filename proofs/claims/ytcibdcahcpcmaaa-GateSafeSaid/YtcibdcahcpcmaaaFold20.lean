import Derived.Test.YtcibdcahcpcmaaaFold19
import Derived.Test.YtcibdcahcpcmaaaFold01
import Derived.Test.YtcibdcahcpcmaaaProg
import Derived.Laws.IdiomStrings
import Derived.BigRegion
import Derived.Laws.Concat
/- The seal: what a call of start, rounds, take, word does. -/
namespace Go.Proofs.Ytcibdcahcpcmaaa
open Go.RowKit
set_option maxRecDepth 100000
set_option linter.unusedVariables false
set_option linter.unusedSimpArgs false
theorem xor_u64 {a b : Nat} (ha : a < 18446744073709551616) (hb : b < 18446744073709551616) : bits .xor .u64 (a : Int) (b : Int) = ((a ^^^ b : Nat) : Int) := u64_xor_nat a b ha hb
theorem alloc2_row0 (w : World) (o1 o2 : Obj) : ((w.alloc o1).alloc o2).heap[w.heap.size + 1]? = some o2 := by
  have h5 := heap_alloc_new (w.alloc o1) o2
  rw [show (w.alloc o1).heap.size = w.heap.size + 1 from by simp] at h5
  exact h5
theorem alloc2_chg0 (w : World) (o1 o2 : Obj) : Chg nob w ((w.alloc o1).alloc o2) := ((Chg.refl _ _).alloc _).alloc _
theorem FourAt.setAll {w : World} {g : Nat} {v u : V4} (h : FourAt w g v) (hu : small u) : FourAt (set4 w g (.int .u64 u.1) (.int .u64 u.2.1) (.int .u64 u.2.2.1) (.int .u64 u.2.2.2)) g u :=
  ⟨set4_row h.c _ _ _ _, hu⟩
theorem s_start {w : World} {k0 k1 : Nat} (h0 : k0 < 18446744073709551616) (h1 : k1 < 18446744073709551616) :
    Calls Try.prog 81 #[.agg #[.int .u64 k0, .int .u64 k1]] w fun e w' => e = .returned (.agg (fourV (startV k0 k1))) ∧ Chg nob w w' := by
  have e1 : bits .xor .u64 (k0 : Int) 8317987319222330741 = ((k0 ^^^ 8317987319222330741 : Nat) : Int) := xor_u64 h0 (by decide)
  have e2 : bits .xor .u64 (k1 : Int) 7237128888997146477 = ((k1 ^^^ 7237128888997146477 : Nat) : Int) := xor_u64 h1 (by decide)
  have e3 : bits .xor .u64 (k0 : Int) 7816392313619706465 = ((k0 ^^^ 7816392313619706465 : Nat) : Int) := xor_u64 h0 (by decide)
  have e4 : bits .xor .u64 (k1 : Int) 8387220255154660723 = ((k1 ^^^ 8387220255154660723 : Nat) : Int) := xor_u64 h1 (by decide)
  have HR : Hid (fourV (startV k0 k1) = #[.int .u64 ((k0 ^^^ 8317987319222330741 : Nat) : Int), .int .u64 ((k1 ^^^ 7237128888997146477 : Nat) : Int), .int .u64 ((k0 ^^^ 7816392313619706465 : Nat) : Int), .int .u64 ((k1 ^^^ 8387220255154660723 : Nat) : Int)]) := rfl
  have HE := Lib.hid (And.intro e1 (And.intro e2 (And.intro e3 e4)))
  clear e1 e2 e3 e4
  go_enter Try.func81, Try.ntmps81
  go_wp2
  obtain ⟨e1, e2, e3, e4⟩ := HE.out
  simp only [e1, e2, e3, e4]
  have hrow := alloc2_row0 w (.cells #[.int .u64 k0, .int .u64 k1] 70) (.cells #[.int .u64 ((k0 ^^^ 8317987319222330741 : Nat) : Int), .int .u64 ((k1 ^^^ 7237128888997146477 : Nat) : Int), .int .u64 ((k0 ^^^ 7816392313619706465 : Nat) : Int), .int .u64 ((k1 ^^^ 8387220255154660723 : Nat) : Int)] 145)
  have hchg := alloc2_chg0 w (.cells #[.int .u64 k0, .int .u64 k1] 70) (.cells #[.int .u64 ((k0 ^^^ 8317987319222330741 : Nat) : Int), .int .u64 ((k1 ^^^ 7237128888997146477 : Nat) : Int), .int .u64 ((k0 ^^^ 7816392313619706465 : Nat) : Int), .int .u64 ((k1 ^^^ 8387220255154660723 : Nat) : Int)] 145)
  generalize (World.alloc _ _ : World) = w9 at hrow hchg ⊢
  obtain ⟨⟨q0, q1, q2, q3⟩, _⟩ := row4_cells hrow
  refine bodyPost_ret (by simp [results, Try.results81, go_sem, q0, q1, q2, q3]; rfl) rfl ?_
  exact ⟨by rw [HR.out], hchg⟩
def roundsV : Nat → V4 → V4
  | 0, v => v
  | n + 1, v => roundV (roundsV n v)
theorem roundsV_small {v : V4} (h : small v) : ∀ n, small (roundsV n v)
  | 0 => h
  | n + 1 => roundV_small (roundsV_small h n)
theorem s_rounds {w : World} {g : Nat} {v : V4} (h : FourAt w g v) (n : Nat) (hn : n ≤ 100) :
    Calls Try.prog 84 #[.pointer (some ⟨g, 0, none⟩), .int .i64 n] w fun e w' => e = .returned (.tuple #[]) ∧ FourAt w' g (roundsV n v) ∧ Chg (fun b => b = g) w w' := by
  have HI := Lib.hid h
  clear h
  go_enter Try.func84, Try.ntmps84
  go_wp2
  go_loopw [5] (fun i wr => ∃ j : Nat, j ≤ n ∧ i = .int .i64 j ∧ FourAt wr g (roundsV j v) ∧ Chg (fun b => b = g) w wr) (fun i _ => n - (intOf i).toNat)
  case atStart => exact ⟨0, Nat.zero_le _, rfl, HI.out, Chg.refl _ _⟩
  case round =>
    obtain ⟨j, hj, rfl, hf, hc⟩ := hrel
    by_cases hlt : j < n
    · have b1 : (j : Int) < (n : Int) := by omega
      obtain ⟨c0, c1, c2, c3⟩ := hf.cells
      have HF := Lib.hid hf
      have HC := Lib.hid hc
      clear hf hc
      go_wp2_with fail
      refine (s_round (v := roundsV j v) HF.out.s).mono ?_
      rintro e w2 ⟨rfl, hc2⟩
      have hf2 : FourAt w2 g (roundsV j v) := ⟨hc2.heap HF.out.c (not_nob _), HF.out.s⟩
      have HC3 := Lib.hid (HC.out.thenNew hc2)
      have HS := Lib.hid (roundV_small HF.out.s)
      clear c0 c1 c2 c3 hc2 HF HC
      obtain ⟨c0, c1, c2, c3⟩ := hf2.cells
      have f0 := hf2.loose 0
      have f1 := hf2.loose 1
      have f2 := hf2.loose 2
      have f3 := hf2.loose 3
      have HF := Lib.hid hf2
      clear hf2
      unfold fourV
      go_wp2
      exact ⟨⟨j + 1, by omega, by go_num, HF.out.setAll HS.out, set4_chg HC3.out (.inl rfl) _ _ _ _⟩, by simp [intOf]; omega⟩
    · have b1 : ¬ (j : Int) < (n : Int) := by omega
      go_wp2
      go_returns
      rw [show n = j from by omega]
      exact ⟨rfl, hf, hc⟩
theorem s_take {w : World} {g : Nat} {v : V4} (h : FourAt w g v) (m : Nat) (hm : m < 18446744073709551616) :
    Calls Try.prog 82 #[.pointer (some ⟨g, 0, none⟩), .int .u64 m] w fun e w' => e = .returned (.tuple #[]) ∧ FourAt w' g (takeV v m) ∧ Chg (fun b => b = g) w w' := by
  obtain ⟨_, _, _, c3⟩ := h.drew.cells
  have f3 := h.drew.loose 3
  have HC : Hid (Chg (fun b => b = g) w w.drew) := (Chg.refl _ _).drew
  have HH := Lib.hid h.drew
  have HX : Hid (v.2.2.2 ^^^ m < 18446744073709551616) := xor_lt64 h.s.2.2.2 hm
  have HE : Hid (bits .xor .u64 (v.2.2.2 : Int) (m : Int) = ((v.2.2.2 ^^^ m : Nat) : Int)) := xor_u64 h.s.2.2.2 hm
  clear h
  go_enter Try.func82, Try.ntmps82
  go_wp2
  go_still_tail 8, (by kernel_rfl)
  change wpList _ _ _ _ _ w.drew
  generalize w.drew = w2 at c3 f3 HC HH ⊢
  go_wp2_with fail
  rw [HE.out]
  have h3 := HH.out.set3 HX.out
  have HC2 : Hid (Chg (fun b => b = g) w (w2.setCell ⟨g, 3, none⟩ (.int .u64 ((v.2.2.2 ^^^ m : Nat) : Int)))) := Chg.set1 HC.out _ _
  generalize w2.setCell ⟨g, 3, none⟩ (.int .u64 ((v.2.2.2 ^^^ m : Nat) : Int)) = w3 at HC2 h3 ⊢
  clear c3 f3 HC HH
  refine (s_rounds h3 2 (by decide)).mono ?_
  rintro e w4 ⟨rfl, h4, hc4⟩
  have HC4 : Hid (Chg (fun b => b = g) w w4.drew) := (HC2.out.trans hc4 (fun i hi => .inl hi)).drew
  obtain ⟨r, hr⟩ : ∃ r, roundsV 2 (v.1, v.2.1, v.2.2.1, v.2.2.2 ^^^ m) = r := ⟨_, rfl⟩
  rw [hr] at h4
  have HR : Hid (takeV v m = (r.1 ^^^ m, r.2)) := by show _ = _; rw [← hr]; rfl
  have HX2 : Hid (r.1 ^^^ m < 18446744073709551616) := xor_lt64 h4.s.1 hm
  have HE2 : Hid (bits .xor .u64 (r.1 : Int) (m : Int) = ((r.1 ^^^ m : Nat) : Int)) := xor_u64 h4.s.1 hm
  obtain ⟨c0, _, _, _⟩ := h4.drew.cells
  have f0 := h4.drew.loose 0
  have HH := Lib.hid h4.drew
  clear h3 HC2 h4 hc4 hr HX HE
  go_wp2
  go_still_tail 8, (by kernel_rfl)
  change wpList _ _ _ _ _ w4.drew
  generalize w4.drew = w5 at c0 f0 HC4 HH ⊢
  go_wp2
  rw [HE2.out, HR.out]
  go_returns
  exact ⟨rfl, HH.out.set0 HX2.out, Chg.set1 HC4.out _ _⟩
theorem word_val {n x j : Nat} (hn : n < 18446744073709551616) (hx : x < 256) (hj : j < 8) : bits .or .u64 (n : Int) (IntKind.u64.wrap (IntKind.u64.wrap (x : Int) * 2 ^ (8 * j))) = ((n ||| x * 2 ^ (8 * j) : Nat) : Int) := by
  have h1 : x * 2 ^ (8 * j) < 18446744073709551616 := by
    have h2 : 2 ^ (8 * j) * 256 ≤ 18446744073709551616 := by
      rw [show (18446744073709551616 : Nat) = 2 ^ 56 * 256 from rfl]
      exact Nat.mul_le_mul_right _ (Nat.pow_le_pow_right (by decide) (by omega))
    have h3 : 0 < 2 ^ (8 * j) := Nat.two_pow_pos _
    have h4 : (x + 1) * 2 ^ (8 * j) ≤ 256 * 2 ^ (8 * j) := Nat.mul_le_mul_right _ hx
    rw [Nat.add_mul] at h4
    omega
  have e0 : IntKind.u64.wrap (x : Int) = (x : Int) := by rw [wrap_u64, Nat.mod_eq_of_lt (by omega)]
  have e1 : ((x : Int) * 2 ^ (8 * j)) = ((x * 2 ^ (8 * j) : Nat) : Int) := by simp
  rw [e0, e1, wrap_u64, Nat.mod_eq_of_lt h1, bits_or_u64_nat _ _ hn h1]
theorem s_word {w : World} {ok : Nat → Prop} {A : Option Addr} {m c : Nat} {l : List UInt8} (hb : Kd.byte.C w ok A l) (hm : l.length = m) (hm8 : m ≤ 8) :
    Calls Try.prog 83 #[.slice A m c] w fun e w' => e = .returned (.int .u64 (leW l)) ∧ w' = w := by
  have HB := Lib.hid hb
  have HM := Lib.hid hm
  clear hb hm
  go_enter Try.func83, Try.ntmps83
  go_wp2
  go_loopw [3, 8] (fun v i wr => ∃ j : Nat, j ≤ m ∧ i = .int .i64 j ∧ v = .int .u64 (leW (l.take j)) ∧ wr = w) (fun _ i _ => m - (intOf i).toNat)
  case atStart => exact ⟨0, Nat.zero_le _, rfl, rfl, rfl⟩
  case round =>
    obtain ⟨j, hj, rfl, rfl, rfl⟩ := hrel
    by_cases hlt : j < m
    · obtain ⟨x, hx⟩ : ∃ x, l[j]? = some x := ⟨_, List.getElem?_eq_getElem (by rw [HM.out]; exact hlt)⟩
      obtain ⟨ad, rfl, _, ha⟩ := at_scalar HB.out hx
      have ha' : wr.cell? (ad.add j) = some (.int .u8 x.toNat) := ha
      have HW := Lib.hid (word_next hx)
      have HL := Lib.hid (leW_lt8 (l := l.take j) (by rw [List.length_take]; omega))
      have b1 : (0 : Int) ≤ (j : Int) := by omega
      have b2 : (j : Int) < (m : Int) := by omega
      clear ha hx
      go_wp2
      exact ⟨⟨j + 1, by omega, by go_num, by rw [word_val HL.out x.toNat_lt (by omega), HW.out], trivial⟩, by simp [intOf]; omega⟩
    · have b1 : ¬ (j : Int) < (m : Int) := by omega
      go_wp2
      go_ret
      rw [List.take_of_length_le (by rw [HM.out]; omega)]
      exact ⟨rfl, rfl⟩
end Go.Proofs.Ytcibdcahcpcmaaa

/- Bytes in memory: what append does with them, a block that is known whole, a text out of them. -/
namespace Go.Proofs.Ytcibdcahcpcmaaa
open Go.RowKit
set_option linter.unusedVariables false
/-! ### bytes in memory -/
def encB (b : UInt8) : Value := .int .u8 (b.toNat : Int)
theorem byte_val (x : Nat) : (Value.int .u8 (IntKind.u8.wrap (x : Int))) = encB (UInt8.ofNat (x % 256)) := by
  unfold encB
  congr 1
  rw [UInt8.toNat_ofNat_of_lt' (show x % 256 < 256 by omega)]
  simp [IntKind.wrap, IntKind.bits, IntKind.signed]
theorem byte_mod (x : Nat) : Value.int .u8 ((x : Int) % 256) = encB (UInt8.ofNat (x % 256)) := by
  unfold encB
  congr 1
  rw [UInt8.toNat_ofNat_of_lt' (show x % 256 < 256 by omega)]
  omega
theorem u8_info : (Try.prog.info? 5).map (fun i => (i.zero, i.size, i.bytes)) = some (some (.int .u8 0), 1, 1) := by kernel_rfl
theorem empty_own (w : World) (base : Nat) (e : TypeId) {α : Type} (d : Kd α) (hb : base ≤ w.heap.size) : d.R e (w.alloc (.cells #[] e)) base (fun k => k = w.heap.size) (.slice (some ⟨w.heap.size, 0, none⟩) 0 0) [] :=
  ⟨fun k hk => by cases hk; rfl, [], World.ownsRow_lit w #[] 0 hb (by simp [maxLen]) (by simp), Reps.nil⟩
theorem byte_ge {e base : Nat} {w : World} {ok : Nat → Prop} {v : Value} {xs : List UInt8} (h : Kd.byte.R e w base ok v xs) : Kd.byte.R e w base (fun b => base ≤ b) v xs := Kd.R_ge Kd.scalar_flat h
section
variable {ops : Array Oper} {rest : List Oper} {o : Oper} {a : Act} {Q : Exit → Act → World → Prop} {w : World}
/-- append(v, bytes...) -/
theorem wp_appB (hgd : o.guard = none) (s x : Operand) (ho : o.op = .call { callee := .builtin .append, args := #[s, x], argTypes := #[26, 26] })
    (base : Nat) (ok ok2 : Nat → Prop) (v : Value) (xs ys : List UInt8) (A : Option Addr) (m c : Nat) (hs : a.eval s = v) (hx : a.eval x = .slice A m c) (hm : ys.length = m)
    (hr : Kd.byte.R 5 w base ok v xs) (hy : Kd.byte.C w ok2 A ys) (hbase : base ≤ w.heap.size) (len : Nat) (hlen : xs.length + m = len) (hl : len ≤ 140737488355328)
    (h : ∀ A' c' w', Kd.byte.R 5 w' base (fun k => some k = (Value.slice A' len c').ownBlock) (.slice A' len c') (xs ++ ys) → Chg (fun k => some k = v.ownBlock) w w' → ((Value.slice A' len c').ownBlock = v.ownBlock ∨ (Value.slice A' len c').ownBlock = some w.heap.size) → wpList Try.prog ops Q rest (a.put o.dst (.slice A' len c')) w') :
    wpList Try.prog ops Q (o :: rest) a w :=
  wp_appendF (d := Kd.byte) Kd.scalar_flat hgd s x 26 ho 5 (.int .u8 0) 1 Try.underlying26 u8_info rfl base ok ok2 v xs ys A m c hs hx hm hr hy (by unfold maxLen; omega) (by omega) hbase len hlen h
/-- append(v, byte) -/
theorem wp_app1B (hgd : o.guard = none) (s x : Operand) (ho : o.op = .call { callee := .builtin .append, args := #[s, x], argTypes := #[26, 26] })
    (base : Nat) (ok : Nat → Prop) (v : Value) (xs : List UInt8) (y : UInt8) (z : Value) (hz : z = encB y) (hs : a.eval s = v) (hx : a.eval x = .slice (some ⟨w.heap.size, 0, none⟩) 1 1)
    (hr : Kd.byte.R 5 w base ok v xs) (hbase : base ≤ w.heap.size) (len : Nat) (hlen : xs.length + 1 = len) (hl : len ≤ 140737488355328)
    (h : ∀ A' c' w', Kd.byte.R 5 w' base (fun k => some k = (Value.slice A' len c').ownBlock) (.slice A' len c') (xs ++ [y]) → Chg (fun k => some k = v.ownBlock) w w' → ((Value.slice A' len c').ownBlock = v.ownBlock ∨ ∃ k, (Value.slice A' len c').ownBlock = some k ∧ w.heap.size ≤ k) → wpList Try.prog ops Q rest (a.put o.dst (.slice A' len c')) w') :
    wpList Try.prog ops Q (o :: rest) a (w.alloc (.cells #[z] 5)) := by
  subst hz
  exact wp_append1F (d := Kd.byte) Kd.scalar_flat hgd s x 26 ho 5 (.int .u8 0) 1 Try.underlying26 u8_info rfl base ok (fun _ => False) v xs y #[encB y] hs hx hr rfl (by unfold maxLen; omega) (by omega) hbase len hlen h
end
/-- A part of a block that is known whole. -/
theorem C_block {w : World} {g o t : Nat} {cs : Array Value} {fr : Nat × Nat} {xs : List UInt8} (h : w.heap[g]? = some (.cells cs t fr)) (hx : cs.toList.drop o = xs.map encB) (hl : xs.length ≤ 9223372036854775807) : Kd.byte.C w (fun b => b = g) (some ⟨g, o, none⟩) xs := by
  refine ⟨hl, xs.map encB, reps_of_scalar xs, fun _ => ⟨_, rfl, rfl, fun j u hu => ?_⟩⟩
  rw [add_at, cell_of_row w g (o + j) cs t fr h, ← Array.getElem?_toList, ← List.getElem?_drop, hx]
  exact hu
theorem block_set {w : World} {g t : Nat} {xs : List UInt8} {i : Nat} {b : UInt8} (h : w.heap[g]? = some (.cells (xs.map encB).toArray t (0, 0))) :
    (w.setCell ⟨g, i, none⟩ (encB b)).heap[g]? = some (.cells ((xs.set i b).map encB).toArray t (0, 0)) := by
  simp [World.setCell, Array.getElem?_modify, h, List.map_set]
theorem block_at {w : World} {g t : Nat} {xs : List UInt8} {i : Nat} (h : w.heap[g]? = some (.cells (xs.map encB).toArray t (0, 0))) (hi : i < xs.length) :
    (∃ v, w.cell? ⟨g, i, none⟩ = some v) ∧ w.frozen? ⟨g, i, none⟩ = false := by
  refine ⟨?_, by simp [World.frozen?, h]⟩
  rw [cell_of_row w g i _ _ _ h]
  exact ⟨_, Array.getElem?_eq_getElem (by simpa using hi)⟩
theorem C_dropB {w : World} {ok : Nat → Prop} {A : Option Addr} {xs : List UInt8} (h : Kd.byte.C w ok A xs) (n c : Nat) (hn : n ≤ xs.length) (hc : xs.length ≤ c) : Kd.byte.C w ok (if c = n then A else A.map (fun x => x.add n)) (xs.drop n) := by
  have := Kd.C_drop h n c hn hc
  simp only [show Kd.byte.sz = 1 from rfl, Nat.mul_one] at this
  exact this
def strOf (l : List UInt8) : ByteArray := ⟨l.toArray⟩
theorem strOf_append (a b : List UInt8) : strOf (a ++ b) = strOf a ++ strOf b := by
  apply ByteArray.ext
  show (a ++ b).toArray = _
  rw [ByteArray.data_append]
  simp [strOf]
theorem strOf_list (l : List UInt8) : (strOf l).toList = l := by rw [ByteArray.toList_eq]; rfl
theorem strOf_size (l : List UInt8) : (strOf l).size = l.length := rfl
theorem run_conv {P : Program} {w : World} {ok : Nat → Prop} {A : Option Addr} {m c : Nat} {bs : List UInt8} {src dst e : TypeId} (h : Kd.byte.C w ok A bs) (hm : bs.length = m)
    (hs : P.underlying src = some (.slice e)) (he : P.underlying e = some (.int .u8)) (hd : P.underlying dst = some .string) :
    (convert src dst (.slice A m c)).run P w = .ok (.string (strOf bs)) w := by
  subst hm
  cases A with
  | none =>
    cases bs with
    | nil => rw [run_convert_bytes_string w src dst e none _ c hs he hd]; rfl
    | cons x l =>
      obtain ⟨ad, e, _⟩ := at_scalar h (j := 0) (x := x) rfl
      cases e
  | some a =>
    refine run_convert_bytes_back w src dst e a c bs hs he hd (fun j hj => ?_)
    obtain ⟨ad, e, _, hc⟩ := at_scalar h (List.getElem?_eq_getElem hj)
    cases e
    exact hc
/-- A call gives bytes of its own. -/
def Tells (w : World) (l : List UInt8) (m : Nat) (e : Ending) (w' : World) : Prop := ∃ A c, e = .returned (.slice A m c) ∧ l.length = m ∧ m ≤ c ∧ Kd.byte.C w' (fun b => w.heap.size ≤ b) A l ∧ Chg nob w w'
theorem conv_any {w : World} {ok : Nat → Prop} {A : Option Addr} {m : Nat} {bs : List UInt8} (h : Kd.byte.C w ok A bs) (hm : bs.length = m) (c : Nat) :
    (convert 26 9 (.slice A m c)).run Try.prog w = .ok (.string (strOf bs)) w := run_conv (e := 5) h hm (by kernel_rfl) (by kernel_rfl) (by kernel_rfl)
end Go.Proofs.Ytcibdcahcpcmaaa
