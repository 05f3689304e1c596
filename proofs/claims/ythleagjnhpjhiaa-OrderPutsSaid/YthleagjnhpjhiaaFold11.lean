import Derived.Test.YthleagjnhpjhiaaFold01
import Derived.Test.YthleagjnhpjhiaaProg
import Derived.Laws.IdiomStrings
import Derived.BigRegion
import Derived.Laws.Concat
/- Bytes in memory: what append does with them, a block that is known whole, a text out of them. -/
namespace Go.Proofs.Ythleagjnhpjhiaa
open Go.RowKit
set_option linter.unusedVariables false
/-! ### bytes in memory -/
def encB (b : UInt8) : Value := .int .u8 (b.toNat : Int)
theorem byte_val (x : Nat) : (Value.int .u8 (IntKind.u8.wrap (x : Int))) = encB (UInt8.ofNat (x % 256)) := by
  unfold encB
  congr 1
  rw [UInt8.toNat_ofNat_of_lt' (show x % 256 < 256 by omega)]
  simp [IntKind.wrap, IntKind.bits, IntKind.signed]
theorem byte_mod (x : Nat) : Value.int .u8 ((x : Int) % 256) = encB (UInt8.ofNat (x % 256)) := by
  unfold encB
  congr 1
  rw [UInt8.toNat_ofNat_of_lt' (show x % 256 < 256 by omega)]
  omega
theorem u8_info : (Try.prog.info? 5).map (fun i => (i.zero, i.size, i.bytes)) = some (some (.int .u8 0), 1, 1) := by kernel_rfl
theorem empty_own (w : World) (base : Nat) (e : TypeId) {α : Type} (d : Kd α) (hb : base ≤ w.heap.size) : d.R e (w.alloc (.cells #[] e)) base (fun k => k = w.heap.size) (.slice (some ⟨w.heap.size, 0, none⟩) 0 0) [] :=
  ⟨fun k hk => by cases hk; rfl, [], World.ownsRow_lit w #[] 0 hb (by simp [maxLen]) (by simp), Reps.nil⟩
theorem byte_ge {e base : Nat} {w : World} {ok : Nat → Prop} {v : Value} {xs : List UInt8} (h : Kd.byte.R e w base ok v xs) : Kd.byte.R e w base (fun b => base ≤ b) v xs := Kd.R_ge Kd.scalar_flat h
section
variable {ops : Array Oper} {rest : List Oper} {o : Oper} {a : Act} {Q : Exit → Act → World → Prop} {w : World}
/-- append(v, bytes...) -/
theorem wp_appB (hgd : o.guard = none) (s x : Operand) (ho : o.op = .call { callee := .builtin .append, args := #[s, x], argTypes := #[32, 32] })
    (base : Nat) (ok ok2 : Nat → Prop) (v : Value) (xs ys : List UInt8) (A : Option Addr) (m c : Nat) (hs : a.eval s = v) (hx : a.eval x = .slice A m c) (hm : ys.length = m)
    (hr : Kd.byte.R 5 w base ok v xs) (hy : Kd.byte.C w ok2 A ys) (hbase : base ≤ w.heap.size) (len : Nat) (hlen : xs.length + m = len) (hl : len ≤ 140737488355328)
    (h : ∀ A' c' w', Kd.byte.R 5 w' base (fun k => some k = (Value.slice A' len c').ownBlock) (.slice A' len c') (xs ++ ys) → Chg (fun k => some k = v.ownBlock) w w' → ((Value.slice A' len c').ownBlock = v.ownBlock ∨ (Value.slice A' len c').ownBlock = some w.heap.size) → wpList Try.prog ops Q rest (a.put o.dst (.slice A' len c')) w') :
    wpList Try.prog ops Q (o :: rest) a w :=
  wp_appendF (d := Kd.byte) Kd.scalar_flat hgd s x 32 ho 5 (.int .u8 0) 1 Try.underlying32 u8_info rfl base ok ok2 v xs ys A m c hs hx hm hr hy (by unfold maxLen; omega) (by omega) hbase len hlen h
/-- append(v, byte) -/
theorem wp_app1B (hgd : o.guard = none) (s x : Operand) (ho : o.op = .call { callee := .builtin .append, args := #[s, x], argTypes := #[32, 32] })
    (base : Nat) (ok : Nat → Prop) (v : Value) (xs : List UInt8) (y : UInt8) (z : Value) (hz : z = encB y) (hs : a.eval s = v) (hx : a.eval x = .slice (some ⟨w.heap.size, 0, none⟩) 1 1)
    (hr : Kd.byte.R 5 w base ok v xs) (hbase : base ≤ w.heap.size) (len : Nat) (hlen : xs.length + 1 = len) (hl : len ≤ 140737488355328)
    (h : ∀ A' c' w', Kd.byte.R 5 w' base (fun k => some k = (Value.slice A' len c').ownBlock) (.slice A' len c') (xs ++ [y]) → Chg (fun k => some k = v.ownBlock) w w' → ((Value.slice A' len c').ownBlock = v.ownBlock ∨ ∃ k, (Value.slice A' len c').ownBlock = some k ∧ w.heap.size ≤ k) → wpList Try.prog ops Q rest (a.put o.dst (.slice A' len c')) w') :
    wpList Try.prog ops Q (o :: rest) a (w.alloc (.cells #[z] 5)) := by
  subst hz
  exact wp_append1F (d := Kd.byte) Kd.scalar_flat hgd s x 32 ho 5 (.int .u8 0) 1 Try.underlying32 u8_info rfl base ok (fun _ => False) v xs y #[encB y] hs hx hr rfl (by unfold maxLen; omega) (by omega) hbase len hlen h
end
/-- A part of a block that is known whole. -/
theorem C_block {w : World} {g o t : Nat} {cs : Array Value} {fr : Nat × Nat} {xs : List UInt8} (h : w.heap[g]? = some (.cells cs t fr)) (hx : cs.toList.drop o = xs.map encB) (hl : xs.length ≤ 9223372036854775807) : Kd.byte.C w (fun b => b = g) (some ⟨g, o, none⟩) xs := by
  refine ⟨hl, xs.map encB, reps_of_scalar xs, fun _ => ⟨_, rfl, rfl, fun j u hu => ?_⟩⟩
  rw [add_at, cell_of_row w g (o + j) cs t fr h, ← Array.getElem?_toList, ← List.getElem?_drop, hx]
  exact hu
theorem block_set {w : World} {g t : Nat} {xs : List UInt8} {i : Nat} {b : UInt8} (h : w.heap[g]? = some (.cells (xs.map encB).toArray t (0, 0))) :
    (w.setCell ⟨g, i, none⟩ (encB b)).heap[g]? = some (.cells ((xs.set i b).map encB).toArray t (0, 0)) := by
  simp [World.setCell, Array.getElem?_modify, h, List.map_set]
theorem block_at {w : World} {g t : Nat} {xs : List UInt8} {i : Nat} (h : w.heap[g]? = some (.cells (xs.map encB).toArray t (0, 0))) (hi : i < xs.length) :
    (∃ v, w.cell? ⟨g, i, none⟩ = some v) ∧ w.frozen? ⟨g, i, none⟩ = false := by
  refine ⟨?_, by simp [World.frozen?, h]⟩
  rw [cell_of_row w g i _ _ _ h]
  exact ⟨_, Array.getElem?_eq_getElem (by simpa using hi)⟩
theorem C_dropB {w : World} {ok : Nat → Prop} {A : Option Addr} {xs : List UInt8} (h : Kd.byte.C w ok A xs) (n c : Nat) (hn : n ≤ xs.length) (hc : xs.length ≤ c) : Kd.byte.C w ok (if c = n then A else A.map (fun x => x.add n)) (xs.drop n) := by
  have := Kd.C_drop h n c hn hc
  simp only [show Kd.byte.sz = 1 from rfl, Nat.mul_one] at this
  exact this
def strOf (l : List UInt8) : ByteArray := ⟨l.toArray⟩
theorem strOf_append (a b : List UInt8) : strOf (a ++ b) = strOf a ++ strOf b := by
  apply ByteArray.ext
  show (a ++ b).toArray = _
  rw [ByteArray.data_append]
  simp [strOf]
theorem strOf_list (l : List UInt8) : (strOf l).toList = l := by rw [ByteArray.toList_eq]; rfl
theorem strOf_size (l : List UInt8) : (strOf l).size = l.length := rfl
theorem run_conv {P : Program} {w : World} {ok : Nat → Prop} {A : Option Addr} {m c : Nat} {bs : List UInt8} {src dst e : TypeId} (h : Kd.byte.C w ok A bs) (hm : bs.length = m)
    (hs : P.underlying src = some (.slice e)) (he : P.underlying e = some (.int .u8)) (hd : P.underlying dst = some .string) :
    (convert src dst (.slice A m c)).run P w = .ok (.string (strOf bs)) w := by
  subst hm
  cases A with
  | none =>
    cases bs with
    | nil => rw [run_convert_bytes_string w src dst e none _ c hs he hd]; rfl
    | cons x l =>
      obtain ⟨ad, e, _⟩ := at_scalar h (j := 0) (x := x) rfl
      cases e
  | some a =>
    refine run_convert_bytes_back w src dst e a c bs hs he hd (fun j hj => ?_)
    obtain ⟨ad, e, _, hc⟩ := at_scalar h (List.getElem?_eq_getElem hj)
    cases e
    exact hc
/-- A call gives bytes of its own. -/
def Tells (w : World) (l : List UInt8) (m : Nat) (e : Ending) (w' : World) : Prop := ∃ A c, e = .returned (.slice A m c) ∧ l.length = m ∧ m ≤ c ∧ Kd.byte.C w' (fun b => w.heap.size ≤ b) A l ∧ Chg nob w w'
theorem conv_any {w : World} {ok : Nat → Prop} {A : Option Addr} {m : Nat} {bs : List UInt8} (h : Kd.byte.C w ok A bs) (hm : bs.length = m) (c : Nat) :
    (convert 32 9 (.slice A m c)).run Try.prog w = .ok (.string (strOf bs)) w := run_conv (e := 5) h hm (by kernel_rfl) (by kernel_rfl) (by kernel_rfl)
end Go.Proofs.Ythleagjnhpjhiaa

/- A number's bytes: the plain function, and what field.Num and the reference's Num lay. -/
namespace Go.Proofs.Ythleagjnhpjhiaa
open Go.RowKit
set_option maxRecDepth 100000
set_option linter.unusedVariables false

/-! ### the plain function -/
def leB : Nat → List UInt8
  | 0 => []
  | n + 1 => UInt8.ofNat ((n + 1) % 256) :: leB ((n + 1) / 256)
decreasing_by omega
theorem leB_zero : leB 0 = [] := by rw [leB]
theorem leB_pos {n : Nat} (h : 0 < n) : leB n = UInt8.ofNat (n % 256) :: leB (n / 256) := by
  obtain ⟨m, rfl⟩ : ∃ m, n = m + 1 := ⟨n - 1, by omega⟩
  rw [leB]
theorem leB_len (k : Nat) : ∀ n : Nat, n < 256 ^ k → (leB n).length ≤ k := by
  induction k with
  | zero => intro n h; have : n = 0 := by simpa using h
            subst this; simp [leB_zero]
  | succ k ih =>
    intro n h
    rcases Nat.eq_zero_or_pos n with rfl | hp
    · simp [leB_zero]
    · rw [leB_pos hp]
      have := ih (n / 256) (by rw [Nat.div_lt_iff_lt_mul (by omega)]; rwa [Nat.pow_succ] at h)
      simp
      omega
def numB (n : Nat) : List UInt8 := UInt8.ofNat (leB n).length :: (leB n).reverse
theorem leB_len8 {n : Nat} (h : n < 18446744073709551616) : (leB n).length ≤ 8 := leB_len 8 n (by simpa using h)
theorem numB_len {n : Nat} (h : n < 18446744073709551616) : (numB n).length ≤ 9 := by
  have := leB_len8 h
  simp [numB]
  omega

/-- What a call leaves that tells new bytes. -/
def Laid (w : World) (l : List UInt8) (e : Ending) (w' : World) : Prop := ∃ v, e = .returned v ∧ Kd.byte.R 5 w' w.heap.size (fun b => w.heap.size ≤ b) v l ∧ Chg nob w w'
/-- Between the rounds. -/
structure DigSt (w : World) (n : Nat) (k x : Nat) (wr : World) : Prop where
  lo : ∃ lo : List UInt8, lo.length = k ∧ leB n = lo ++ leB x ∧ wr.heap[w.heap.size]? = some (.cells ((List.replicate (8 - k) 0 ++ lo.reverse).map encB).toArray 86 (0, 0))
  hk : k ≤ 8
  chg : Chg nob w wr

theorem DigSt.len {w wr : World} {n k x : Nat} (h : DigSt w n k x wr) (hn : n < 18446744073709551616) (hx : 0 < x) : k < 8 := by
  obtain ⟨lo, h1, h2, _⟩ := h.lo
  have := leB_len8 hn
  rw [h2, leB_pos hx] at this
  simp at this
  omega
theorem DigSt.step {w wr : World} {n k x : Nat} (h : DigSt w n k x wr) (hx : 0 < x) (hk : k < 8) : DigSt w n (k + 1) (x / 256) (wr.setCell ⟨w.heap.size, 7 - k, none⟩ (.int .u8 ((x : Int) % 256))) := by
  rw [byte_mod, show 7 - k = 8 - (k + 1) from by omega]
  obtain ⟨⟨lo, h1, h2, h3⟩, h4, h5⟩ := h
  refine ⟨⟨lo ++ [UInt8.ofNat (x % 256)], by simp [h1], by rw [h2, leB_pos hx]; simp, ?_⟩, by omega, h5.setCell (.inr (by simp)) _⟩
  have := block_set (i := 8 - (k + 1)) (b := UInt8.ofNat (x % 256)) h3
  rw [this]
  congr 4
  rw [show 8 - k = (8 - (k + 1)) + 1 from by omega, List.replicate_succ', List.append_assoc, List.set_append_right _ _ (by simp), List.length_replicate, Nat.sub_self]
  simp
theorem DigSt.start (w : World) (n : Nat) : DigSt w n 0 n (w.alloc (.cells #[.int .u8 0, .int .u8 0, .int .u8 0, .int .u8 0, .int .u8 0, .int .u8 0, .int .u8 0, .int .u8 0] 86)) :=
  ⟨⟨[], rfl, rfl, heap_alloc_new w _⟩, by omega, (Chg.refl _ _).alloc _⟩
theorem DigSt.done {w wr : World} {n k : Nat} (h : DigSt w n k 0 wr) : k = (leB n).length ∧ Kd.byte.C wr (fun b => b = w.heap.size) (some ⟨w.heap.size, 8 - k, none⟩) (leB n).reverse := by
  obtain ⟨⟨lo, h1, h2, h3⟩, h4, h5⟩ := h
  rw [leB_zero, List.append_nil] at h2
  refine ⟨by rw [h2, h1], C_block h3 ?_ (by rw [h2]; simp; omega)⟩
  rw [h2]
  simp
set_option maxRecDepth 100000 in
theorem slice8 (g k : Nat) (hk : k ≤ 8) : ∃ AX, (∀ wx : World, (Instr.sliceAt 86 (.pointer (some ⟨g, 0, none⟩)) (some (.int .i64 (8 - (k : Int)))) none none).run Try.prog wx = .ok (.slice AX k k) wx) ∧ (0 < k → AX = some ⟨g, 8 - k, none⟩) := by
  have hAL : Try.prog.arrayLen 86 = 8 := by kernel_rfl
  have hEL : Try.prog.elem 86 = 5 := by kernel_rfl
  have hSZ : ∀ wx : World, (Go.sizeOf 5).run Try.prog wx = .ok 1 wx := fun _ => by kernel_rfl
  refine ⟨if 8 = (8 - (k : Int)).toNat then some ⟨g, 0, none⟩ else some ((⟨g, 0, none⟩ : Addr).add ((8 - (k : Int)).toNat * 1)), fun wx => ?_, fun h => ?_⟩
  · rw [run_sliceAt_array_l wx 86 _ (by rw [hAL, hEL]; exact Try.underlying86) .i64 _ (by omega) (by rw [hAL]; omega), hAL, hEL, hSZ]
    simp only [Result.andThen_ok, slicedAt]
    have e : 8 - (8 - (k : Int)).toNat = k := by omega
    rw [e]
    split <;> rfl
  · rw [if_neg (by omega), add_at]
    congr 2
    omega
set_option maxHeartbeats 2000000 in
theorem field_num {w : World} {ok : Nat → Prop} {A : Option Addr} {m c : Nat} {bs : List UInt8} (hb : Kd.byte.C w ok A bs) (hm : bs.length = m) (hm2 : m ≤ 1000000000) (n : Int) (h0 : 0 ≤ n) (h1 : n < 18446744073709551616) :
    Calls Try.prog 21 #[.slice A m c, .int .u64 n] w (Laid w (bs ++ numB n.toNat)) := by
  obtain ⟨n, rfl⟩ := Int.eq_ofNat_of_zero_le h0
  rw [Int.toNat_natCast]
  have hn : n < 18446744073709551616 := by omega
  clear h0 h1
  have hN := Lib.hid hn
  have HM := Lib.hid hm
  have hs := DigSt.start w n
  have hl8 := leB_len8 hn
  clear hm hn
  go_enter Try.func21, Try.ntmps21
  go_wp2
  go_loopw [6, 7] (fun i j wr => ∃ k x : Nat, i = .int .i64 k ∧ j = .int .u64 x ∧ DigSt w n k x wr) (fun _ j _ => (intOf j).toNat)
  case atStart => exact ⟨0, n, rfl, rfl, hs⟩
  case round =>
    obtain ⟨k, x, rfl, rfl, hd⟩ := hrel
    clear hs
    by_cases hx : 0 < x
    · have hk := hd.len hN.out hx
      obtain ⟨v, hv, hf⟩ : ∃ v, wr.cell? ⟨w.heap.size, 7 - k, none⟩ = some v ∧ wr.frozen? ⟨w.heap.size, 7 - k, none⟩ = false := by
        obtain ⟨lo, h1, _, h3⟩ := hd.lo
        obtain ⟨⟨v, hv⟩, hf⟩ := block_at (i := 7 - k) h3 (by simp; omega)
        exact ⟨v, hv, hf⟩
      have hst := hd.step hx hk
      go_wp2
      exact ⟨⟨k + 1, x / 256, by go_num, by go_num, hst⟩, by simp [intOf]; omega⟩
    · obtain rfl : x = 0 := by omega
      obtain ⟨hk, hC⟩ := hd.done
      have hk8 : k ≤ 8 := hd.hk
      have hl : m + 1 + k = (bs ++ numB n).length := by simp [numB, HM.out, hk]; omega
      have HL := Lib.hid hl
      have hwr := hd.chg.size
      have hcx : (0 : Int) ≤ 8 - (k : Int) := by omega
      have hby : Value.int .u8 ((k : Int)) = encB (UInt8.ofNat (leB n).length) := by
        unfold encB; rw [UInt8.toNat_ofNat_of_lt' (show (leB n).length < 256 by omega), hk]
      have HBY := Lib.hid hby
      have HK := Lib.hid hk
      clear hk hl hby
      have c0 : Chg nob wr (wr.alloc (.cells #[] 5)) := (Chg.refl _ _).alloc _
      have hdc := hd.chg
      have hlt : w.heap.size < wr.heap.size := by obtain ⟨lo, _, _, h3⟩ := hd.lo; exact heap_lt h3
      clear hd
      go_wp2_with (at_builtin; refine wp_appB rfl _ _ rfl wr.heap.size (fun b => b = wr.heap.size) ok _ [] bs A m _ rfl rfl HM.out (empty_own wr _ _ _ (Nat.le_refl _)) (Kd.C_new (Kd.C_new hb hdc) c0) ?_ m (Nat.zero_add _) ?_ ?_)
      · simp
      · omega
      intro A1 c1 w1 hR1 hC1 hat1
      have q1 : Chg nob wr w1 := c0.trans hC1 (fun b hb => .inr (by cases hb; exact Nat.le_refl _))
      have s1 := q1.size
      clear hC1 hat1 hb c0
      go_wp2_with (at_builtin; refine wp_app1B rfl _ _ rfl wr.heap.size (fun b => some b = (Value.slice A1 m c1).ownBlock) (.slice A1 m c1) bs (UInt8.ofNat (leB n).length) _ ?_ rfl rfl hR1 ?_ (m + 1) ?_ ?_ ?_)
      · exact HBY.out
      · exact q1.size
      · rw [HM.out]
      · omega
      intro A2 c2 w2 hR2 hC2 hat2
      have q2 : Chg nob wr w2 := q1.trans hC2 (fun b hb => .inr (by have := (Kd.R_own hR1 b hb.symm).1; omega))
      clear hC2 hat2 hR1
      have hC2 : ∀ AX, (0 < k → AX = some ⟨w.heap.size, 8 - k, none⟩) → Kd.byte.C w2 (fun b => b = w.heap.size) AX (leB n).reverse := by
        intro AX hAX
        rcases Nat.eq_zero_or_pos k with h0 | h0
        · have : (leB n).reverse = [] := by rw [HK.out] at h0; simpa using List.eq_nil_of_length_eq_zero h0
          rw [this]; exact Kd.C_nil _ _ _ _
        · rw [hAX h0]; exact Kd.C_new hC q2
      obtain ⟨AX, hsl, hAX⟩ := slice8 w.heap.size k hk8
      have hC3 := hC2 AX hAX
      clear hC2 hAX hC
      go_wp2_with (at_builtin; refine wp_appB rfl _ _ rfl wr.heap.size (fun b => some b = (Value.slice A2 (m + 1) c2).ownBlock) (fun b => b = w.heap.size) (.slice A2 (m + 1) c2) (bs ++ [UInt8.ofNat (leB n).length]) (leB n).reverse AX k _ rfl rfl ?_ hR2 hC3 ?_ (m + 1 + k) ?_ ?_ ?_)
      · rw [List.length_reverse]; exact HK.out.symm
      · have := q2.size; omega
      · rw [List.length_append, HM.out, List.length_singleton]
      · omega
      intro A3 c3 w3 hR3 hC4 _
      have q3 : Chg nob wr w3 := q2.trans hC4 (fun b hb => .inr (Kd.R_own hR2 b hb.symm).1)
      have HE : Hid (Laid w (bs ++ numB n) (.returned (.slice A3 (m + 1 + k) c3)) w3) := by
        refine ⟨_, rfl, ?_, hdc.thenNew q3⟩
        exact Kd.R_mono (Kd.R_lower (show Kd.byte.R _ _ _ _ _ (bs ++ numB n) from hR3) hwr) (fun b hb => Nat.le_trans hwr (Kd.R_own hR3 b hb.symm).1)
      clear hR3 hC4 hR2 hsl
      go_wp2
      go_ret
      exact HE.out
end Go.Proofs.Ythleagjnhpjhiaa
